/- The contracts as the laws' walks use them: a disk and a journal that the law itself has made. Under the condition that the tables lie in memory as the program lays them. -/
import Derived.Test.YtihoomlaggihlaaGreatDoorLG
namespace Go.Proofs.YtihoomlaggihlaaGreatDoor
open Go.RowKit

theorem own_from {w : World} {base B e size n : Nat} {v : Value} {xs : List Value} (h : w.ownsRow base e size v n xs) (hB : B ≤ base) : w.ownsRow B e size v n xs := by
  refine ⟨h.1, ?_⟩
  rcases h.2 with k | ⟨g, cap, cur, k1, k2, k3⟩
  · exact Or.inl k
  · exact Or.inr ⟨g, cap, cur, k1, Nat.le_trans hB k2, k3⟩
/-- a disk of the law's own -/
structure DS (w0 : World) (F : Nat → Prop) (d n : Nat) (D : PD) (w : World) : Prop where
  dat : DAt w F d n D
  bel : Below w0.heap.size w0 w
  ge : ∀ x, F x → w0.heap.size ≤ x
  lay0 : Laid w0
theorem DS.lay {w0 w : World} {F : Nat → Prop} {d n : Nat} {D : PD} (h : DS w0 F d n D w) : Laid w := h.lay0.keep h.bel
theorem DS.f6 {w0 w : World} {F : Nat → Prop} {d n : Nat} {D : PD} (h : DS w0 F d n D w) : ∀ x, F x → 6 ≤ x := fun x hx => Nat.le_trans h.lay0.size (h.ge x hx)
theorem DS.step {w0 w w' : World} {F F' : Nat → Prop} {d n : Nat} {D E : PD} (h : DS w0 F d n D w) (g : DAt w' F' d n E) (hs : Stp F w F' w') : DS w0 F' d n E w' :=
  ⟨g, h.bel.trans (hs.out.below h.bel.size (fun x e => h.ge x e)), fun x hx => by
    rcases hs.sub x hx with y | y
    · exact h.ge x y
    · exact Nat.le_trans h.bel.size y, h.lay0⟩
theorem DS.below {w0 w w' : World} {F : Nat → Prop} {d n : Nat} {D : PD} (h : DS w0 F d n D w) (hb : Below w.heap.size w w') : DS w0 F d n D w' := h.step (h.dat.below hb) (Stp.below hb)
/-- a journal is kept while its disk works -/
theorem JAt.stp {w w' : World} {F F' G : Nat → Prop} {jb d n c : Nat} {recs : List (List UInt8)} {brk : Bool} (h : JAt w G jb d n c recs brk) (hs : Stp F w F' w') (hFG : ∀ k, F k → ¬ G k) : JAt w' G jb d n c recs brk ∧ ∀ k, F' k → ¬ G k :=
  ⟨h.out hs.out hFG, fun k hk hg => by
    rcases hs.sub k hk with y | y
    · exact hFG k y hg
    · have := h.lt k hg; omega⟩
/-- a row of records of the law's own: apart from a footprint -/
structure RS (w0 : World) (X : Nat → Prop) (v : Value) (xs : List (List UInt8)) (w : World) : Prop where
  own : w.ownsRow w0.heap.size 9 1 v xs.length (strs xs)
  far : ∀ x, v.ownBlock = some x → ¬ X x
theorem RS.stp {w0 w w' : World} {X X' : Nat → Prop} {v : Value} {xs : List (List UInt8)} (h : RS w0 X v xs w) (hs : Stp X w X' w') : RS w0 X' v xs w' :=
  ⟨hs.out.own h.own (fun x hx e => h.far x hx e), fun x hx e => by
    rcases hs.sub x e with y | y
    · exact h.far x hx y
    · have := (h.own.lt x hx).2; omega⟩
theorem RS.weak {w0 w : World} {X Y : Nat → Prop} {v : Value} {xs : List (List UInt8)} (h : RS w0 X v xs w) (hY : ∀ x, x < w.heap.size → Y x → X x) : RS w0 Y v xs w :=
  ⟨h.own, fun x hx e => h.far x hx (hY x (h.own.lt x hx).2 e)⟩
theorem RS.sr {w0 w : World} {X : Nat → Prop} {v : Value} {xs : List (List UInt8)} (h : RS w0 X v xs w) : SR w X v xs := SR.own h.own h.far
theorem ds_new (w0 w : World) (n : Nat) (h1 : 1 ≤ n) (h2 : n ≤ 4000) (hb : Below w0.heap.size w0 w) (hL : Laid w0) :
    Calls Tryz.prog 8 #[.int .i64 n] w fun e w' => ∃ d F, e = .returned (.pointer (some ⟨d, 0, none⟩)) ∧ DS w0 F d n (newD n) w' ∧ Below w.heap.size w w' ∧ ∀ k, F k → w.heap.size ≤ k := by
  refine (new_yes w n h1 h2).mono ?_
  rintro e w' ⟨d, F, rfl, g1, g2, g3⟩
  exact ⟨d, F, rfl, ⟨g1, hb.trans (g2.mono hb.size), fun x hx => Nat.le_trans hb.size (g3 x hx), hL⟩, g2, g3⟩
theorem ds_fail (w0 w : World) (F : Nat → Prop) (d n : Nat) (D : PD) (x y : Int) (h : DS w0 F d n D w) (hm : D.pend.length ≤ 100000) :
    Calls Tryz.prog 20 #[.pointer (some ⟨d, 0, none⟩), .int .i64 x, .int .i64 y] w fun e w' => e = .returned (.tuple #[]) ∧ DS w0 F d n (D.fail x y) w' ∧ Stp F w F w' := by
  refine (fail_any w F d n D x y h.dat hm).mono ?_
  rintro e w' ⟨rfl, g1, g2⟩
  exact ⟨rfl, h.step g1 (Stp.same g2), Stp.same g2⟩
theorem ds_start (w0 w : World) (F : Nat → Prop) (d n : Nat) (D : PD) (h : DS w0 F d n D w) :
    Calls Tryz.prog 22 #[.pointer (some ⟨d, 0, none⟩)] w fun e w' => e = .returned (.tuple #[]) ∧ DS w0 F d n D.start w' ∧ Stp F w F w' := by
  refine (start_dat w F d n D h.dat).mono ?_
  rintro e w' ⟨rfl, g1, g2⟩
  exact ⟨rfl, h.step g1 (Stp.same g2), Stp.same g2⟩
theorem ds_arm (w0 w : World) (F : Nat → Prop) (d n : Nat) (D : PD) (a b c : Int) (h : DS w0 F d n D w) (ha : a ≤ 9223372036854775807) :
    Calls Tryz.prog 24 #[.pointer (some ⟨d, 0, none⟩), .int .i64 a, .int .i64 b, .int .i64 c] w fun e w' => e = .returned (.tuple #[]) ∧ ∃ F', DS w0 F' d n (D.arm a b c) w' ∧ Stp F w F' w' := by
  refine (arm_dat w F d n D a b c h.dat ha).mono ?_
  rintro e w' ⟨rfl, F', g1, g2⟩
  exact ⟨rfl, F', h.step g1 g2, g2⟩
theorem ds_rot (w0 w : World) (F : Nat → Prop) (d n : Nat) (D : PD) (i a m : Int) (h : DS w0 F d n D w) :
    Calls Tryz.prog 26 #[.pointer (some ⟨d, 0, none⟩), .int .i64 i, .int .i64 a, .int .i64 m] w fun e w' => e = .returned (.tuple #[]) ∧ DS w0 F d n (D.rot i a m) w' ∧ Stp F w F w' := by
  refine (rot_any w F d n i a m D h.dat).mono ?_
  rintro e w' ⟨rfl, g1, g2⟩
  exact ⟨rfl, h.step g1 (Stp.same g2), Stp.same g2⟩
/-- a journal of the law's own, in good order -/
structure JS (w0 : World) (F G : Nat → Prop) (d jb n c : Nat) (S recs : List (List UInt8)) (al : Option (Int × Int × Int)) (w : World) : Prop where
  ds : DS w0 F d n ⟨S, [], false, al⟩ w
  jat : JAt w G jb d n c recs false
  sep : ∀ k, F k → ¬ G k
  gge : ∀ k, G k → w0.heap.size ≤ k
  good : Good n S c recs
  n3 : 3 ≤ n
theorem JS.st {w0 w : World} {F G : Nat → Prop} {d jb n c : Nat} {S recs : List (List UInt8)} {al : Option (Int × Int × Int)} (h : JS w0 F G d jb n c S recs al w) : St w F G d jb n c S recs al :=
  ⟨h.ds.dat, h.jat, h.sep, h.good, h.n3, h.ds.f6, h.ds.lay⟩
theorem JS.of {w0 w : World} {F G : Nat → Prop} {d jb n c : Nat} {S recs : List (List UInt8)} {al : Option (Int × Int × Int)} (h : St w F G d jb n c S recs al) (hb : Below w0.heap.size w0 w) (hge : ∀ x, F x ∨ G x → w0.heap.size ≤ x) (hL : Laid w0) : JS w0 F G d jb n c S recs al w :=
  ⟨⟨h.dat, hb, fun x e => hge x (Or.inl e), hL⟩, h.jat, h.sep, fun x e => hge x (Or.inr e), h.good, h.n3⟩
theorem JS.ge {w0 w : World} {F G : Nat → Prop} {d jb n c : Nat} {S recs : List (List UInt8)} {al : Option (Int × Int × Int)} (h : JS w0 F G d jb n c S recs al w) : ∀ x, F x ∨ G x → w0.heap.size ≤ x := fun x e => e.elim (h.ds.ge x) (h.gge x)
/-- how an Open ends -/
def OpenD (w0 : World) (F : Nat → Prop) (d n : Nat) (S : List (List UInt8)) (al : Option (Int × Int × Int)) (w : World) (e : Ending) (w' : World) : Prop :=
  ((¬ ∃ c recs, Opn n S c recs) ∧ e = .returned (.tuple #[.pointer none, .slice none 0 0, .int .i64 20]) ∧ Below w.heap.size w w' ∧ DS w0 F d n ⟨S, [], false, al⟩ w') ∨
  (∃ c recs, Opn n S c recs ∧ al ≠ none ∧ e = .returned (.tuple #[.pointer none, .slice none 0 0, .int .i64 21]) ∧ ∃ F' T, DS w0 F' d n ⟨T, [], true, none⟩ w' ∧ Opn n T c recs ∧ Stp F w F' w') ∨
  (∃ c recs, Opn n S c recs ∧ ∃ jb gv F' G S' al', e = .returned (.tuple #[.pointer (some ⟨jb, 0, none⟩), gv, .int .i64 0]) ∧ JS w0 F' G d jb n c S' recs al' w' ∧ (al = none → al' = none) ∧ Stp F w F' w' ∧ (∀ k, G k → w.heap.size ≤ k) ∧ RS w0 (fun k => F' k ∨ G k) gv recs w')
theorem ds_open (w0 w : World) (F : Nat → Prop) (d n : Nat) (S : List (List UInt8)) (al : Option (Int × Int × Int)) (h : DS w0 F d n ⟨S, [], false, al⟩ w) (hn3 : 3 ≤ n) :
    Calls Tryz.prog 7 #[.pointer (some ⟨d, 0, none⟩)] w (OpenD w0 F d n S al w) := by
  refine (open_good w F d n S al h.dat hn3 h.f6 h.lay).mono ?_
  rintro e w' (⟨h1, rfl, h2⟩ | ⟨c, recs, h1, h2, rfl, F', T, h3, h4, h5⟩ | ⟨c, recs, h1, jb, gv, F', G, S', al', rfl, h3, h4, h5, h6, h7, h8⟩)
  · exact Or.inl ⟨h1, rfl, h2, h.below h2⟩
  · exact Or.inr (Or.inl ⟨c, recs, h1, h2, rfl, F', T, h.step h3 h5, h4, h5⟩)
  · have hz := h.bel.size
    refine Or.inr (Or.inr ⟨c, recs, h1, jb, gv, F', G, S', al', rfl, ⟨h.step h3.dat h5, h3.jat, h3.sep, fun k hk => Nat.le_trans hz (h6 k hk), h3.good, h3.n3⟩, h4, h5, h6, ⟨?_, fun x hx e => e.elim (h8 x hx).1 (h8 x hx).2⟩⟩)
    exact own_from h7 hz
/-- how an Append ends -/
def AppD (w0 : World) (F G : Nat → Prop) (d jb n c : Nat) (S recs : List (List UInt8)) (al : Option (Int × Int × Int)) (xs : List (List UInt8)) (w : World) (e : Ending) (w' : World) : Prop :=
  ∃ F' G', Stp (fun k => F k ∨ G k) w (fun k => F' k ∨ G' k) w' ∧
    ((∃ c' S' al', e = .returned (.int .i64 0) ∧ JS w0 F' G' d jb n c' S' (recs ++ xs) al' w' ∧ (al = none → al' = none) ∧ longB xs = false ∧ c' = c + (pieces (textP xs)).length) ∨
     (∃ code : Int, ((code = 2 ∧ longB xs = true) ∨ (code = 22 ∧ longB xs = false ∧ n - 2 - c < (pieces (textP xs)).length)) ∧ e = .returned (.int .i64 code) ∧ JS w0 F' G' d jb n c S recs al w') ∨
     (al ≠ none ∧ e = .returned (.int .i64 21) ∧ (∀ k, F' k → ¬ G' k) ∧ JAt w' G' jb d n c recs true ∧ ∃ T, DS w0 F' d n ⟨T, [], true, none⟩ w' ∧ ((∃ c', Opn n T c' recs) ∨ ∃ c', Opn n T c' (recs ++ xs))))
theorem js_append (w0 w : World) (F G : Nat → Prop) (d jb n c : Nat) (S recs : List (List UInt8)) (al : Option (Int × Int × Int)) (xs : List (List UInt8)) (v : Value) (h : JS w0 F G d jb n c S recs al w) (hv : SR w (fun k => F k ∨ G k) v xs) (hm : xs.length ≤ 50000) (hl : ∀ t ∈ xs, t.length ≤ 10000000) (ht : (textP xs).length ≤ 10000000) (hrl : recs.length + xs.length ≤ 100000) :
    Calls Tryz.prog 13 #[.pointer (some ⟨jb, 0, none⟩), v] w (AppD w0 F G d jb n c S recs al xs w) := by
  have h6 := h.ds.lay0.size
  refine (append_good w F G d jb n c S recs al xs v h.st (fun k hk => Nat.le_trans h6 (h.gge k hk)) hv hm hl ht hrl).mono ?_
  rintro e w' ⟨F', G', hs, h1⟩
  have hge : ∀ x, F' x ∨ G' x → w0.heap.size ≤ x := fun x hx => by
    rcases hs.sub x hx with y | y
    · exact h.ge x y
    · exact Nat.le_trans h.ds.bel.size y
  have hb : Below w0.heap.size w0 w' := h.ds.bel.trans (hs.out.below h.ds.bel.size (fun x e => h.ge x e))
  refine ⟨F', G', hs, ?_⟩
  rcases h1 with ⟨c', S', al', rfl, g1, g2, g3, g4⟩ | ⟨code, hc, rfl, g1⟩ | ⟨g1, rfl, g2, g3, g4, g5, T, g6, g7⟩
  · exact Or.inl ⟨c', S', al', rfl, JS.of g1 hb hge h.ds.lay0, g2, g3, g4⟩
  · exact Or.inr (Or.inl ⟨code, hc, rfl, JS.of g1 hb hge h.ds.lay0⟩)
  · exact Or.inr (Or.inr ⟨g1, rfl, g2, g5, T, ⟨g6, hb, fun x e => hge x (Or.inl e), h.ds.lay0⟩, g7⟩)
end Go.Proofs.YtihoomlaggihlaaGreatDoor
