/- Contracts whatever the alarm; a region's orders that come together. Under the condition that the tables lie in memory as the program lays them. -/
import Derived.Test.YtihoomlaggihlaaGreatDoorLJ
import Derived.Deep.RegionHeld3
import Derived.StillTailTactics
namespace Go.Proofs.YtihoomlaggihlaaGreatDoor
open Go.RowKit

/-- how an Append ends, whatever the alarm -/
def AppE (w0 : World) (F G : Nat → Prop) (d n : Nat) (recs xs : List (List UInt8)) (w : World) (e : Ending) (w' : World) : Prop :=
  ∃ (code : Int) (F' : Nat → Prop) (off : Bool) (al : Option (Int × Int × Int)) (T : List (List UInt8)) (c : Nat) (recs2 : List (List UInt8)), e = .returned (.int .i64 code) ∧ DS w0 F' d n ⟨T, [], off, al⟩ w' ∧ Opn n T c recs2 ∧ Stp (fun k => F k ∨ G k) w F' w' ∧
    ((code = 0 ∧ recs2 = recs ++ xs) ∨ (code = 2 ∧ recs2 = recs) ∨ (code = 22 ∧ recs2 = recs) ∨ (code = 21 ∧ (recs2 = recs ∨ recs2 = recs ++ xs)))
theorem Stp.left {X F G : Nat → Prop} {w w' : World} (h : Stp X w (fun k => F k ∨ G k) w') : Stp X w F w' := ⟨h.out, fun k e => h.sub k (Or.inl e)⟩
theorem js_append_e (w0 w : World) (F G : Nat → Prop) (d jb n c : Nat) (S recs : List (List UInt8)) (al : Option (Int × Int × Int)) (xs : List (List UInt8)) (v : Value) (h : JS w0 F G d jb n c S recs al w) (hv : SR w (fun k => F k ∨ G k) v xs) (hm : xs.length ≤ 50000) (hl : ∀ t ∈ xs, t.length ≤ 10000000) (ht : (textP xs).length ≤ 10000000) (hrl : recs.length + xs.length ≤ 100000) :
    Calls Tryz.prog 13 #[.pointer (some ⟨jb, 0, none⟩), v] w (AppE w0 F G d n recs xs w) := by
  refine (js_append w0 w F G d jb n c S recs al xs v h hv hm hl ht hrl).mono ?_
  rintro e w' ⟨F', G', hs, ⟨c', S', al', rfl, hj, _⟩ | ⟨code, hc, rfl, hj⟩ | ⟨_, rfl, _, _, T, hd, ho⟩⟩
  · exact ⟨0, F', _, _, _, _, _, rfl, hj.ds, hj.good.opn, hs.left, Or.inl ⟨rfl, rfl⟩⟩
  · refine ⟨code, F', _, _, _, _, _, rfl, hj.ds, hj.good.opn, hs.left, ?_⟩
    rcases hc with ⟨hc, _⟩ | ⟨hc, _⟩
    · exact Or.inr (Or.inl ⟨hc, rfl⟩)
    · exact Or.inr (Or.inr (Or.inl ⟨hc, rfl⟩))
  · rcases ho with ⟨c', ho⟩ | ⟨c', ho⟩
    · exact ⟨21, F', _, _, _, _, _, rfl, hd, ho, hs.left, Or.inr (Or.inr (Or.inr ⟨rfl, Or.inl rfl⟩))⟩
    · exact ⟨21, F', _, _, _, _, _, rfl, hd, ho, hs.left, Or.inr (Or.inr (Or.inr ⟨rfl, Or.inr rfl⟩))⟩
/-- how an Open ends, whatever the alarm -/
def OpenE (w0 : World) (F : Nat → Prop) (d n c : Nat) (recs : List (List UInt8)) (w : World) (e : Ending) (w' : World) : Prop :=
  ∃ (code : Int) (kv gv : Value) (F' : Nat → Prop) (off : Bool) (al : Option (Int × Int × Int)) (T : List (List UInt8)), e = .returned (.tuple #[kv, gv, .int .i64 code]) ∧ DS w0 F' d n ⟨T, [], off, al⟩ w' ∧ Opn n T c recs ∧ Stp F w F' w' ∧
    (code = 21 ∨ (code = 0 ∧ RS w0 F' gv recs w'))
theorem ds_open_e (w0 w : World) (F : Nat → Prop) (d n c : Nat) (S recs : List (List UInt8)) (al : Option (Int × Int × Int)) (h : DS w0 F d n ⟨S, [], false, al⟩ w) (hn3 : 3 ≤ n) (ho : Opn n S c recs) :
    Calls Tryz.prog 7 #[.pointer (some ⟨d, 0, none⟩)] w (OpenE w0 F d n c recs w) := by
  refine (ds_open w0 w F d n S al h hn3).mono ?_
  rintro e w' (⟨hno, _⟩ | ⟨c', recs', hop, _, rfl, F', T, hd, hT, hs⟩ | ⟨c', recs', hop, kb, gv, F', G, S', al', rfl, hst, _, hs, _, hrs⟩)
  · exact absurd ⟨_, _, ho⟩ hno
  · obtain ⟨rfl, rfl⟩ := hop.same ho
    exact ⟨21, _, _, F', _, _, T, rfl, hd, hT, hs, Or.inl rfl⟩
  · obtain ⟨rfl, rfl⟩ := hop.same ho
    exact ⟨0, _, _, F', _, _, S', rfl, hst.ds, hst.good.opn, hs, Or.inr ⟨rfl, hrs.weak fun _ _ h => Or.inl h⟩⟩
/-- an Open that no failure meets -/
def OpenN (w0 : World) (F : Nat → Prop) (d n c : Nat) (recs : List (List UInt8)) (w : World) (e : Ending) (w' : World) : Prop :=
  ∃ (jb : Nat) (gv : Value) (F' G : Nat → Prop) (S : List (List UInt8)), e = .returned (.tuple #[.pointer (some ⟨jb, 0, none⟩), gv, .int .i64 0]) ∧ JS w0 F' G d jb n c S recs none w' ∧ Stp F w F' w' ∧ RS w0 (fun k => F' k ∨ G k) gv recs w' ∧ ∀ k, G k → w.heap.size ≤ k
theorem ds_open_n (w0 w : World) (F : Nat → Prop) (d n c : Nat) (S recs : List (List UInt8)) (h : DS w0 F d n ⟨S, [], false, none⟩ w) (hn3 : 3 ≤ n) (ho : Opn n S c recs) :
    Calls Tryz.prog 7 #[.pointer (some ⟨d, 0, none⟩)] w (OpenN w0 F d n c recs w) := by
  refine (ds_open w0 w F d n S none h hn3).mono ?_
  rintro e w' (⟨hno, _⟩ | ⟨_, _, _, hne, _⟩ | ⟨c', recs', hop, kb, gv, F', G, S', al', rfl, hst, hal, hs, hG, hrs⟩)
  · exact absurd ⟨_, _, ho⟩ hno
  · exact absurd rfl hne
  · obtain ⟨rfl, rfl⟩ := hop.same ho
    obtain rfl := hal rfl
    exact ⟨kb, gv, F', G, S', rfl, hst, hs, hrs, hG⟩
theorem arm_on (S : List (List UInt8)) (al : Option (Int × Int × Int)) (a b c : Int) : ∃ al', PD.arm ⟨S, [], false, al⟩ a b c = ⟨S, [], false, al'⟩ := by
  unfold PD.arm
  exact ⟨if 0 ≤ a then some (a, b, c) else none, by simp⟩
/-- the disk is armed -/
theorem js_arm (w0 w : World) (F G : Nat → Prop) (d jb n c : Nat) (S recs : List (List UInt8)) (al : Option (Int × Int × Int)) (x y z : Int) (h : JS w0 F G d jb n c S recs al w) (hx : x ≤ 9223372036854775807) :
    Calls Tryz.prog 24 #[.pointer (some ⟨d, 0, none⟩), .int .i64 x, .int .i64 y, .int .i64 z] w fun e w' => e = .returned (.tuple #[]) ∧ ∃ F' al', JS w0 F' G d jb n c S recs al' w' ∧ Stp (fun k => F k ∨ G k) w (fun k => F' k ∨ G k) w' := by
  refine (ds_arm w0 w F d n _ x y z h.ds hx).mono ?_
  rintro e w' ⟨rfl, F', hd, hs⟩
  obtain ⟨al', e1⟩ := arm_on S al x y z
  rw [e1] at hd
  have hj := h.jat.stp hs h.sep
  exact ⟨rfl, F', al', ⟨hd, hj.1, hj.2, h.gge, h.good, h.n3⟩, hs.wide G⟩
theorem ds_arm_on (w0 w : World) (F : Nat → Prop) (d n : Nat) (S : List (List UInt8)) (al : Option (Int × Int × Int)) (x y z : Int) (h : DS w0 F d n ⟨S, [], false, al⟩ w) (hx : x ≤ 9223372036854775807) :
    Calls Tryz.prog 24 #[.pointer (some ⟨d, 0, none⟩), .int .i64 x, .int .i64 y, .int .i64 z] w fun e w' => e = .returned (.tuple #[]) ∧ ∃ F' al', DS w0 F' d n ⟨S, [], false, al'⟩ w' ∧ Stp F w F' w' := by
  refine (ds_arm w0 w F d n _ x y z h hx).mono ?_
  rintro e w' ⟨rfl, F', hd, hs⟩
  obtain ⟨al', e1⟩ := arm_on S al x y z
  rw [e1] at hd
  exact ⟨rfl, F', al', hd, hs⟩
theorem own_void (w : World) (B : Nat) (hB : B ≤ w.heap.size) : (w.alloc (.cells #[] 9)).ownsRow B 9 1 (.slice (some ⟨w.heap.size, 0, none⟩) 0 0) 0 (strs []) :=
  ⟨rfl, Or.inr ⟨w.heap.size, 0, #[], rfl, hB, heap_alloc_new w _, Nat.le_refl _, by unfold maxLen; omega, rfl, rfl⟩⟩
/-- a region's orders come together -/
def Once (R : Value → Value → World → Prop) (f : Value → Value → Act) (ex : Exit) (a : Act) (w : World) : Prop :=
  match ex with
  | .normal => ∃ v1 v2, a = f v1 v2 ∧ R v1 v2 w
  | _ => False
theorem region_once {c : Code} {Q : Exit → Act → World → Prop} {a : Act} {w : World} (R : Value → Value → World → Prop) (f : Value → Value → Act) (h1 : c.wp Tryz.prog (Once R f) a w) (h2 : ∀ v1 v2 w', R v1 v2 w' → Q .normal (f v1 v2) w') : c.wp Tryz.prog Q a w :=
  Code.wp_mono (fun ex a' w' h => by
    cases ex <;> first | exact h.elim | skip
    obtain ⟨v1, v2, rfl, hr⟩ := h
    exact h2 v1 v2 w' hr) h1
end Go.Proofs.YtihoomlaggihlaaGreatDoor
