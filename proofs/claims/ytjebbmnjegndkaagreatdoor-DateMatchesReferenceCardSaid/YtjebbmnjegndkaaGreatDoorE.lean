/- Rows of periods in memory; the contracts of what Union calls of the library. Under no condition. -/
import Derived.Test.YtjebbmnjegndkaaGreatDoorD
import Derived.Test.YtjebbmnjegndkaaGreatDoorSort
import Derived.Laws.OwnMore
namespace Go.Proofs.YtjebbmnjegndkaaGreatDoor
open Go.RowKit

/-- a period's two cells -/
def enc2 (p : Int × Int) : List Value := [.int .i64 p.1, .int .i64 p.2]
/-- the cells of a list of periods -/
def flat (l : List (Int × Int)) : List Value := l.flatMap enc2
theorem flat_nil : flat [] = [] := rfl
theorem flat_cons (p : Int × Int) (l : List (Int × Int)) : flat (p :: l) = .int .i64 p.1 :: .int .i64 p.2 :: flat l := rfl
theorem flat_app (a b : List (Int × Int)) : flat (a ++ b) = flat a ++ flat b := List.flatMap_append
theorem flat_len (l : List (Int × Int)) : (flat l).length = l.length * 2 := by
  induction l with
  | nil => rfl
  | cons p t ih => rw [flat_cons, List.length_cons, List.length_cons, ih, List.length_cons]; omega
theorem flat_at (l : List (Int × Int)) (j : Nat) (h : j < l.length) : (flat l)[j * 2]? = some (.int .i64 l[j].1) ∧ (flat l)[j * 2 + 1]? = some (.int .i64 l[j].2) := by
  induction l generalizing j with
  | nil => simp at h
  | cons p t ih =>
    cases j with
    | zero => exact ⟨rfl, rfl⟩
    | succ j =>
      have hj : j < t.length := by simpa using h
      have := ih j hj
      rw [flat_cons, show (j + 1) * 2 = j * 2 + 1 + 1 by omega]
      simpa using this
theorem flat_one (l : List (Int × Int)) : ∀ u ∈ flat l, u.oneCell' = true := by
  intro u hu
  obtain ⟨p, _, hp⟩ := List.mem_flatMap.1 hu
  simp [enc2] at hp
  rcases hp with rfl | rfl <;> rfl
theorem flat_set (a : List (Int × Int)) (f u u' : Int) : (flat (a ++ [(f, u)])).set (a.length * 2 + 1) (.int .i64 u') = flat (a ++ [(f, u')]) := by
  rw [flat_app, flat_app, List.set_append, if_neg (by rw [flat_len]; omega), flat_len]
  rw [show a.length * 2 + 1 - a.length * 2 = 1 by omega]
  rfl

/-- a slice of periods that reads as a list -/
def Rd (w : World) (A : Option Addr) (l : List (Int × Int)) : Prop :=
  l = [] ∨ ∃ b off, A = some ⟨b, off, none⟩ ∧ b < w.heap.size ∧ ∀ j (h : j < l.length), w.cell? ⟨b, off + j * 2, none⟩ = some (.int .i64 l[j].1) ∧ w.cell? ⟨b, off + j * 2 + 1, none⟩ = some (.int .i64 l[j].2)
theorem Rd.keep {w w' : World} {A : Option Addr} {l : List (Int × Int)} (h : Rd w A l) (hb : Below w.heap.size w w') : Rd w' A l := by
  rcases h with h | ⟨b, off, e, hlt, hc⟩
  · exact Or.inl h
  · refine Or.inr ⟨b, off, e, Nat.lt_of_lt_of_le hlt hb.size, fun j hj => ?_⟩
    rw [hb.cell (p := ⟨b, off + j * 2, none⟩) hlt, hb.cell (p := ⟨b, off + j * 2 + 1, none⟩) hlt]
    exact hc j hj
theorem Rd.of_own {w : World} {base n : Nat} {v : Value} {l : List (Int × Int)} (h : w.ownsRow base 38 2 v n (flat l)) : n = l.length ∧ ∃ A c, v = .slice A l.length c ∧ Rd w A l ∧ (∀ b off, A = some ⟨b, off, none⟩ → base ≤ b) := by
  have hn : n = l.length := by have := h.1; rw [flat_len] at this; omega
  subst hn
  refine ⟨rfl, ?_⟩
  rcases h.2 with ⟨rfl, h0⟩ | ⟨g, cap, cur, rfl, hb, hg, hnc, hm, hs, ht⟩
  · exact ⟨none, 0, by rw [h0], Or.inl (List.eq_nil_of_length_eq_zero h0), fun b off e => by cases e⟩
  · refine ⟨_, _, rfl, Or.inr ⟨g, 0, rfl, ?_, fun j hj => ?_⟩, fun b off e => ?_⟩
    · rcases Nat.lt_or_ge g w.heap.size with hlt | hge
      · exact hlt
      · rw [Array.getElem?_eq_none hge] at hg; cases hg
    · have c0 := h.cellAt (j * 2) (by omega)
      have c1 := h.cellAt (j * 2 + 1) (by omega)
      obtain ⟨f0, f1⟩ := flat_at l j hj
      rw [Nat.zero_add, c0, c1]
      exact ⟨f0, f1⟩
    · injection e with e
      injection e with e1 e2
      omega

theorem info41 : (Tryz.prog.info? 38).map (fun i => (i.zero, i.size, i.bytes)) = some (some (.agg #[.int .i64 0, .int .i64 0]), 2, 16) := by kernel_rfl

/-- the predicate of ContainsFunc -/
theorem pred32 (w : World) : PredBelow Tryz.prog 32 #[] (fun x : Int × Int => .agg (enc2 x).toArray) (fun x => !prp x) w := fun W x hb => by
  obtain ⟨f, u⟩ := x
  show Calls Tryz.prog 32 #[.agg #[.int .i64 f, .int .i64 u]] W fun e w' => e = .returned (.bool (!prp (f, u))) ∧ Below w.heap.size w w'
  have c := fun W => proper_any f u W
  generalize prp (f, u) = b at *
  have C := Lib.hid c
  clear c
  go_enter Tryz.func32, Tryz.ntmps32
  go_wp2_with fail
  refine (C.out _).mono ?_
  rintro e w' ⟨rfl, hg⟩
  go_wp2_with fail
  go_ret
  exact ⟨rfl, (hb.alloc hb.size _).trans (hg.below.mono (by simp; have := hb.size; omega))⟩

/-- a period whose From is a day -/
abbrev BP : Type := { p : Int × Int // 0 ≤ p.1 ∧ p.1 ≤ 100000 }
instance : Inhabited BP := ⟨⟨(0, 0), by decide⟩⟩
def encB (x : BP) : List Value := enc2 x.1
theorem cmp35 (x y : BP) (W : World) : Calls Tryz.prog 36 #[.agg #[.int .i64 x.1.1, .int .i64 x.1.2], .agg #[.int .i64 y.1.1, .int .i64 y.1.2]] W fun e w' => e = .returned (.int .i64 (x.1.1 - y.1.1)) ∧ Gr W w' := by
  obtain ⟨⟨f, u⟩, h0, h1⟩ := x
  obtain ⟨⟨f', u'⟩, h0', h1'⟩ := y
  dsimp only at *
  go_enter Tryz.func36, Tryz.ntmps36
  go_wp2
  go_ret
  exact ⟨rfl, (Gr.one _ _).alloc _⟩
theorem cmpLays (blk off size : Nat) (w : World) : CmpLays Tryz.prog 36 #[] encB 2 (fun x y => x.1.1 - y.1.1) blk off size w :=
  fun _ _ _ _ x y => cmp35 x y _
theorem swoB : Sort.SWO (ltOf fun x y : BP => x.1.1 - y.1.1) where
  irrefl x := by simp [ltOf]
  trans x y z h1 h2 := by simp [ltOf] at *; omega
  ntrans x y z h1 h2 := by simp [ltOf] at *; omega
theorem below_sort {α : Type} [Inhabited α] (enc : α → List Value) (k : Nat) (w : World) (blk off m : Nat) (d : Array α) (os : Array Obj) (B : Nat) (h : B ≤ blk) (hB : B ≤ w.heap.size) : Below B w (sortWorldK enc k w blk off m d os) := by
  refine ⟨rfl, rfl, rfl, ?_, fun i hi => ?_⟩
  · exact SWK.le ⟨m, os, rfl⟩
  · show ((w.heap.modify blk _) ++ os)[i]? = w.heap[i]?
    rw [Array.getElem?_append_left (by simp; omega), Array.getElem?_modify, if_neg (by omega)]

end Go.Proofs.YtjebbmnjegndkaaGreatDoor
