/- Append, whatever it is asked for. Under the condition that the tables lie in memory as the program lays them. -/
/- Append on a journal in good order. Under the condition that the tables lie in memory as the program lays them. -/
/- Open on a disk without pending writes. Under the condition that the tables lie in memory as the program lays them. -/
/- Records appended to a row of records, none or many. Under no condition but sizes. -/
/- The contract of filled: a new disk, its journal, and all that was appended. Under the condition that the tables lie in memory as the program lays them. -/
import Derived.Test.YtihoomlaggihlaaGreatDoorKR
import Derived.Test.YtihoomlaggihlaaGreatDoorKV
import Derived.Deep.Upon
namespace Go.Proofs.YtihoomlaggihlaaGreatDoor
open Go.RowKit

/-- how an Append ends -/
def AppAll (w : World) (F G : Nat → Prop) (jb d n c : Nat) (D : PD) (recs : List (List UInt8)) (brk : Bool) (xs : List (List UInt8)) (e : Ending) (w' : World) : Prop :=
  (brk = true ∧ e = .returned (.int .i64 11) ∧ Below w.heap.size w w') ∨
  (brk = false ∧ longB xs = true ∧ e = .returned (.int .i64 2) ∧ Below w.heap.size w w') ∨
  (brk = false ∧ longB xs = false ∧ n - 2 - c < (pieces (textP xs)).length ∧ e = .returned (.int .i64 22) ∧ Below w.heap.size w w') ∨
  (brk = false ∧ xs = [] ∧ e = .returned (.int .i64 0) ∧ Below w.heap.size w w') ∨
  (brk = false ∧ longB xs = false ∧ xs ≠ [] ∧ (pieces (textP xs)).length ≤ n - 2 - c ∧ AppPost w F G jb d n c D recs xs (pieces (textP xs)) e w')
theorem append_any (w : World) (F G : Nat → Prop) (jb d n c : Nat) (D : PD) (recs xs : List (List UInt8)) (brk : Bool) (v : Value) (hD : DAt w F d n D) (h : JAt w G jb d n c recs brk) (hFG : ∀ k, F k → ¬ G k) (hL : Laid w) (hv : SR w (fun k => F k ∨ G k) v xs) (hm : xs.length ≤ 50000) (hl : ∀ t ∈ xs, t.length ≤ 10000000) (ht : (textP xs).length ≤ 10000000) (hrl : recs.length + xs.length ≤ 100000) (hp : D.pend.length ≤ 1000) (hF6 : ∀ x, F x → 6 ≤ x) (hn3 : 3 ≤ n) :
    Calls Tryz.prog 13 #[.pointer (some ⟨jb, 0, none⟩), v] w (AppAll w F G jb d n c D recs brk xs) := by
  have hv0 : SR w (fun _ => False) v xs := hv.weak (fun _ _ => False.elim)
  cases brk with
  | true =>
    refine (append_broken w G jb d n c recs v h).mono ?_
    rintro e w' ⟨rfl, hb⟩
    exact Or.inl ⟨rfl, rfl, hb⟩
  | false =>
    by_cases hb : longB xs = true
    · refine (append_long w G jb d n c recs xs v h hv0 (by omega) hl hb).mono ?_
      rintro e w' ⟨rfl, hw⟩
      exact Or.inr (Or.inl ⟨rfl, hb, rfl, hw⟩)
    · have hb' : longB xs = false := by simpa using hb
      by_cases hr : n - 2 - c < (pieces (textP xs)).length
      · refine (append_room w G jb d n c recs xs v h hD.n4 hL hv0 (by omega) hl hb' ht hr).mono ?_
        rintro e w' ⟨rfl, hw⟩
        exact Or.inr (Or.inr (Or.inl ⟨rfl, hb', hr, rfl, hw⟩))
      · by_cases hx : xs = []
        · subst hx
          refine (append_none w G jb d n c recs v h hD.n4 hL hv0).mono ?_
          rintro e w' ⟨rfl, hw⟩
          exact Or.inr (Or.inr (Or.inr (Or.inl ⟨rfl, rfl, rfl, hw⟩)))
        · refine (append_main w F G jb d n c D recs xs v hD h hFG hL hv (by omega) hx hb' ht (by omega) hp hF6 hn3 h.lt hrl).mono ?_
          intro e w' g
          exact Or.inr (Or.inr (Or.inr (Or.inr ⟨rfl, hb', hx, by omega, g⟩)))
end Go.Proofs.YtihoomlaggihlaaGreatDoor

namespace Go.Proofs.YtihoomlaggihlaaGreatDoor
open Go.RowKit

/-- a disk and its journal, in good order -/
structure St (w : World) (F G : Nat → Prop) (d jb n c : Nat) (S : List (List UInt8)) (recs : List (List UInt8)) (al : Option (Int × Int × Int)) : Prop where
  dat : DAt w F d n ⟨S, [], false, al⟩
  jat : JAt w G jb d n c recs false
  sep : ∀ k, F k → ¬ G k
  good : Good n S c recs
  n3 : 3 ≤ n
  f6 : ∀ k, F k → 6 ≤ k
  lay : Laid w
theorem St.below {w w' : World} {F G : Nat → Prop} {d jb n c : Nat} {S recs : List (List UInt8)} {al : Option (Int × Int × Int)} (h : St w F G d jb n c S recs al) (hb : Below w.heap.size w w') : St w' F G d jb n c S recs al :=
  ⟨h.dat.below hb, h.jat.below hb, h.sep, h.good, h.n3, h.f6, h.lay.keep hb⟩
/-- how an Append on it ends -/
def AppG (w : World) (F G : Nat → Prop) (d jb n c : Nat) (S recs : List (List UInt8)) (al : Option (Int × Int × Int)) (xs : List (List UInt8)) (e : Ending) (w' : World) : Prop :=
  ∃ F' G', Stp (fun k => F k ∨ G k) w (fun k => F' k ∨ G' k) w' ∧
    ((∃ c' S' al', e = .returned (.int .i64 0) ∧ St w' F' G' d jb n c' S' (recs ++ xs) al' ∧ (al = none → al' = none) ∧ longB xs = false ∧ c' = c + (pieces (textP xs)).length) ∨
     (∃ code : Int, ((code = 2 ∧ longB xs = true) ∨ (code = 22 ∧ longB xs = false ∧ n - 2 - c < (pieces (textP xs)).length)) ∧ e = .returned (.int .i64 code) ∧ St w' F' G' d jb n c S recs al) ∨
     (al ≠ none ∧ e = .returned (.int .i64 21) ∧ (∀ k, F' k → ¬ G' k) ∧ (∀ k, F' k → 6 ≤ k) ∧ Laid w' ∧ JAt w' G' jb d n c recs true ∧ ∃ T, DAt w' F' d n ⟨T, [], true, none⟩ ∧ ((∃ c', Opn n T c' recs) ∨ ∃ c', Opn n T c' (recs ++ xs))))
theorem append_good (w : World) (F G : Nat → Prop) (d jb n c : Nat) (S recs : List (List UInt8)) (al : Option (Int × Int × Int)) (xs : List (List UInt8)) (v : Value) (h : St w F G d jb n c S recs al) (hG6 : ∀ k, G k → 6 ≤ k) (hv : SR w (fun k => F k ∨ G k) v xs) (hm : xs.length ≤ 50000) (hl : ∀ t ∈ xs, t.length ≤ 10000000) (ht : (textP xs).length ≤ 10000000) (hrl : recs.length + xs.length ≤ 100000) :
    Calls Tryz.prog 13 #[.pointer (some ⟨jb, 0, none⟩), v] w (AppG w F G d jb n c S recs al xs) := by
  refine (append_any w F G jb d n c ⟨S, [], false, al⟩ recs xs false v h.dat h.jat h.sep h.lay hv hm hl ht hrl (by simp) h.f6 h.n3).mono ?_
  rintro e w' (⟨hf, _⟩ | ⟨_, hlo, rfl, hb⟩ | ⟨_, hlo, hro, rfl, hb⟩ | ⟨_, rfl, rfl, hb⟩ | ⟨_, hlo, hx, hroom, F', G', g1, g2, g3, g4⟩)
  · cases hf
  · exact ⟨F, G, Stp.below hb, Or.inr (Or.inl ⟨2, Or.inl ⟨rfl, hlo⟩, rfl, h.below hb⟩)⟩
  · exact ⟨F, G, Stp.below hb, Or.inr (Or.inl ⟨22, Or.inr ⟨rfl, hlo, hro⟩, rfl, h.below hb⟩)⟩
  · exact ⟨F, G, Stp.below hb, Or.inl ⟨c, S, al, rfl, by rw [List.append_nil]; exact h.below hb, id, rfl, by rw [show pieces (textP []) = [] from pieces_nil]; rfl⟩⟩
  · have hn4 := h.dat.n4
    have hn3 := h.n3
    have hs6 := h.lay.size
    have hF6' : ∀ k, F' k → 6 ≤ k := fun k hk => by
      rcases g2.sub k (Or.inl hk) with y | y
      · rcases y with y | y
        · exact h.f6 k y
        · exact hG6 k y
      · omega
    have hL' : Laid w' := h.lay.out g2.out (fun k hk => hk.elim (h.f6 k) (hG6 k))
    have hcl := h.jat.le
    obtain ⟨b1, b2⟩ := app_both (ts := pieces (textP xs)) h.good h.dat.vd.sec h.n3 (by omega) (longB_ok hlo) (pieces_flat _ _ (Nat.le_refl _)) (pieces_len _ _ (Nat.le_refl _)) (by omega)
    refine ⟨F', G', g2, ?_⟩
    rcases runs_end n (appSegs c (pieces (textP xs))) S al (fun a x y e => h.dat.vd.al a x y e) with ⟨al', e1, _, hal⟩ | ⟨T, e1, hcr, hne⟩
    · rw [e1] at g1 g4
      rcases g4 with ⟨_, rfl, g5⟩ | ⟨g5, _⟩
      · exact Or.inl ⟨c + (pieces (textP xs)).length, _, al', rfl, ⟨g1, g5, g3, b2, h.n3, hF6', hL'⟩, hal, hlo, rfl⟩
      · cases g5
    · rw [e1] at g1 g4
      rcases g4 with ⟨g5, _⟩ | ⟨_, rfl, g5⟩
      · cases g5
      · refine Or.inr (Or.inr ⟨hne, rfl, g3, hF6', hL', g5, T, g1, ?_⟩)
        rcases b1 T hcr with o | o
        · exact Or.inl ⟨_, o⟩
        · exact Or.inr ⟨_, o⟩
end Go.Proofs.YtihoomlaggihlaaGreatDoor

namespace Go.Proofs.YtihoomlaggihlaaGreatDoor
open Go.RowKit

/-- how an Open ends -/
def OpenG (w : World) (F : Nat → Prop) (d n : Nat) (S : List (List UInt8)) (al : Option (Int × Int × Int)) (e : Ending) (w' : World) : Prop :=
  ((¬ ∃ c recs, Opn n S c recs) ∧ e = .returned (.tuple #[.pointer none, .slice none 0 0, .int .i64 20]) ∧ Below w.heap.size w w') ∨
  (∃ c recs, Opn n S c recs ∧ al ≠ none ∧ e = .returned (.tuple #[.pointer none, .slice none 0 0, .int .i64 21]) ∧ ∃ F' T, DAt w' F' d n ⟨T, [], true, none⟩ ∧ Opn n T c recs ∧ Stp F w F' w') ∨
  (∃ c recs, Opn n S c recs ∧ ∃ jb gv F' G S' al', e = .returned (.tuple #[.pointer (some ⟨jb, 0, none⟩), gv, .int .i64 0]) ∧ St w' F' G d jb n c S' recs al' ∧ (al = none → al' = none) ∧ Stp F w F' w' ∧ (∀ k, G k → w.heap.size ≤ k) ∧ w'.ownsRow w.heap.size 9 1 gv recs.length (strs recs) ∧ ∀ k, gv.ownBlock = some k → ¬ F' k ∧ ¬ G k)
theorem open_good (w : World) (F : Nat → Prop) (d n : Nat) (S : List (List UInt8)) (al : Option (Int × Int × Int)) (h : DAt w F d n ⟨S, [], false, al⟩) (hn3 : 3 ≤ n) (hF6 : ∀ k, F k → 6 ≤ k) (hL : Laid w) :
    Calls Tryz.prog 7 #[.pointer (some ⟨d, 0, none⟩)] w (OpenG w F d n S al) := by
  have hn4 := h.n4
  refine (open_main w F d n ⟨S, [], false, al⟩ h rfl (by simp) hn3 hF6 hL).mono ?_
  have hv : view ⟨S, [], false, al⟩ = S := rfl
  rintro e w' (⟨h1, rfl, h2⟩ | ⟨c, recs, h1, h2, rfl, F', h3, h4⟩ | ⟨c, recs, h1, h2, jb, gv, F', G, rfl, h3, h4, h5, h6, h7, h8, h9⟩)
  · rw [hv] at h1
    exact Or.inl ⟨h1, rfl, h2⟩
  · rw [hv] at h1 h2 h3
    rcases runs_end n (mend S c) S al (fun a x y e => h.vd.al a x y e) with ⟨al', e1, _, hal⟩ | ⟨T, e1, hcr, hne⟩
    · rw [e1] at h2
      cases h2
    · rw [e1] at h3
      exact Or.inr (Or.inl ⟨c, recs, h1, hne, rfl, F', T, h3, mend_crash h1 h.vd.sec hn3 (by omega) hcr, h4⟩)
  · rw [hv] at h1 h2 h3
    rcases runs_end n (mend S c) S al (fun a x y e => h.vd.al a x y e) with ⟨al', e1, _, hal⟩ | ⟨T, e1, hcr, hne⟩
    · rw [e1] at h3
      have hs6 := hL.size
      have hF6' : ∀ k, F' k → 6 ≤ k := fun k hk => by
        rcases h4.sub k hk with y | y
        · exact hF6 k y
        · omega
      exact Or.inr (Or.inr ⟨c, recs, h1, jb, gv, F', G, _, al', rfl, ⟨h3, h5, h7, mend_done h1 h.vd.sec hn3 (by omega), hn3, hF6', hL.out h4.out hF6⟩, hal, h4, h6, h8, h9⟩)
    · rw [e1] at h2
      cases h2
end Go.Proofs.YtihoomlaggihlaaGreatDoor

namespace Go.Proofs.YtihoomlaggihlaaGreatDoor
open Go.RowKit

theorem run_append_strs (w : World) (base n : Nat) (v : Value) (xs ys : List (List UInt8)) (F : Nat → Prop) (xv : Value) (ty : TypeId) (hown : w.ownsRow base 9 1 v n (strs xs)) (hsr : SR w F xv ys) (hb : n + ys.length ≤ 1000000) (hbase : base ≤ w.heap.size) :
    ∃ v' w', (Builtin.append_ #[26, 26] ty #[v, xv]).run Tryz.prog w = .ok v' w' ∧ w'.ownsRow base 9 1 v' (n + ys.length) (strs (xs ++ ys)) ∧ w.grownBy w' v.ownBlock ∧ (v'.ownBlock = v.ownBlock ∨ v'.ownBlock = some w.heap.size) := by
  obtain ⟨i9, hi9, ha9, hb9, hc9⟩ := info_parts info9
  obtain ⟨a, c, rfl, hc, hcs⟩ := hsr
  by_cases hy : ys = []
  · subst hy
    have hsrc : Src Tryz.prog i9.size 26 (.slice a ([] : List (List UInt8)).length c) 0 [] w := by
      rcases a with _ | ad
      · exact Src.ofNil w Tryz.underlying26 c
      · exact Src.ofSlice w Tryz.underlying26 ad 0 c [] (by simp) (fun j u h => by simp at h) (fun u h => by simp at h)
    rcases hown.2 with ⟨rfl, rfl⟩ | ⟨g, cap, cur, rfl, _, _, hcap, _⟩
    · exact ⟨_, w, run_append_nothing w 26 26 ty 9 i9 Tryz.underlying26 hi9 Option.none 0 0 (Nat.le_refl _) _ hsrc, by rw [List.append_nil]; exact hown, ⟨rfl, rfl, rfl, Nat.le_refl _, fun _ _ _ => rfl⟩, Or.inl rfl⟩
    · exact ⟨_, w, run_append_nothing w 26 26 ty 9 i9 Tryz.underlying26 hi9 (some ⟨g, 0, Option.none⟩) n cap hcap _ hsrc, by rw [List.append_nil]; exact hown, ⟨rfl, rfl, rfl, Nat.le_refl _, fun _ _ _ => rfl⟩, Or.inl rfl⟩
  · have hl := List.length_pos_iff.2 hy
    obtain ⟨b, o, rfl, _, _⟩ := hcs 0 hl
    have hs : SR w F (.slice (some ⟨b, o, Option.none⟩) ys.length c) ys := ⟨_, c, rfl, hc, hcs⟩
    obtain ⟨v', w', hr, h2, h3, _, h5⟩ := run_append_own_at (P := Tryz.prog) w base 26 ty 9 i9 _ 1 16 Tryz.underlying26 hi9 ha9 hb9 hc9 rfl (by decide) v n (strs xs) hown ⟨b, o, Option.none⟩ ys.length c (strs ys) (by simp [strs]) hs.news (strs_one _) (by unfold maxLen; omega) (by omega) hbase
    exact ⟨v', w', hr, by rw [strs_app]; exact h2, h3, h5⟩
/-- at the list of a plain region's operations -/
theorem wpList_append_strs {ops : Array Oper} {rest : List Oper} {o : Oper} {a : Act} {Q : Exit → Act → World → Prop} {w : World} (hgd : o.guard = none) (s x : Operand)
    (ho : o.op = .call { callee := .builtin .append, args := #[s, x], argTypes := #[26, 26] }) (base n : Nat) (v : Value) (xs ys : List (List UInt8)) (F : Nat → Prop) (xv : Value) (hs : a.eval s = v) (hx : a.eval x = xv) (hown : w.ownsRow base 9 1 v n (strs xs)) (hsr : SR w F xv ys) (hb : n + ys.length ≤ 1000000) (hbase : base ≤ w.heap.size)
    (h : ∀ v' w', w'.ownsRow base 9 1 v' (n + ys.length) (strs (xs ++ ys)) → w.grownBy w' v.ownBlock → (v'.ownBlock = v.ownBlock ∨ v'.ownBlock = some w.heap.size) → wpList Tryz.prog ops Q rest (a.put o.dst v') w') : wpList Tryz.prog ops Q (o :: rest) a w := by
  refine wpList_plain hgd fun K hK' => ?_
  obtain ⟨v', w', hrun, r1, r2, r3⟩ := run_append_strs w base n v xs ys F xv o.type hown hsr hb hbase
  unfold Oper.wp
  simp [execOp, ho, resolve, invoke, builtin, hs, hx, hrun, Result.andThen]
  exact hK' _ _ (h v' w' r1 r2 r3)
end Go.Proofs.YtihoomlaggihlaaGreatDoor

namespace Go.Proofs.YtihoomlaggihlaaGreatDoor
open Go.RowKit

theorem opn_new (n : Nat) (hn : 3 ≤ n) : Opn n (List.replicate n zeroT) 0 [] := by
  have g : ∀ i, i < n → (List.replicate n zeroT).getD i [] = zeroT := fun i hi => by
    rw [List.getD_eq_getElem?_getD, List.getElem?_replicate, if_pos hi]; rfl
  refine ⟨?_, ⟨[], rfl, fun i h => absurd h (Nat.not_lt_zero _), rfl⟩, fun r hr => by cases hr⟩
  rw [g 0 (by omega), g 1 (by omega)]
  simp [cnt]
/-- what filled hands back, where there is no journal -/
def FillNo (w : World) (e : Ending) (w' : World) : Prop := Below w.heap.size w w' ∧ ∃ dv av, e = .returned (.tuple #[dv, .pointer none, av])
/-- what filled hands back -/
def FillYes (w : World) (n : Nat) (l : List ROp) (e : Ending) (w' : World) : Prop := Below w.heap.size w w' ∧ ∃ (F G : Nat → Prop) (d jb c : Nat) (S recs : List (List UInt8)) (av : Value), e = .returned (.tuple #[.pointer (some ⟨d, 0, none⟩), .pointer (some ⟨jb, 0, none⟩), av]) ∧ St w' F G d jb n c S recs none ∧ (∀ k, F k ∨ G k → w.heap.size ≤ k) ∧
    w'.ownsRow w.heap.size 9 1 av recs.length (strs recs) ∧ (∀ k, av.ownBlock = some k → ¬ F k ∧ ¬ G k) ∧ recs.length ≤ 20 * l.length ∧ sumLen recs ≤ total l
end Go.Proofs.YtihoomlaggihlaaGreatDoor
