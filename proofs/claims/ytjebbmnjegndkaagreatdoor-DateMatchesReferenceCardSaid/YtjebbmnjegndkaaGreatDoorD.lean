/- The contracts of the functions on single periods. Under no condition. -/
import Derived.Test.YtjebbmnjegndkaaGreatDoorC
import Derived.Test.YtjebbmnjegndkaaGreatDoorUn
import Derived.Shelf.SlSortCmp.QuietGrown
import Derived.Lib.AppendIntMem
namespace Go.Proofs.YtjebbmnjegndkaaGreatDoor
open Go.RowKit

/-- the world has grown: draws, and blocks behind it -/
def Gr (w w' : World) : Prop := ∃ q os, w' = Sort.grow (w.drewN q) os
theorem Gr.refl (w : World) : Gr w w := ⟨0, #[], by rw [Sort.grow_empty]; rfl⟩
theorem Gr.trans {w w1 w2 : World} (h : Gr w w1) (g : Gr w1 w2) : Gr w w2 := by
  obtain ⟨q, os, rfl⟩ := h
  obtain ⟨q', os', rfl⟩ := g
  exact ⟨q + q', os ++ os', by show Sort.grow (Sort.grow ((w.drewN q).drewN q') os) os' = _; rw [Sort.grow_grow, World.drewN_drewN]⟩
theorem Gr.one (w : World) (o : Obj) : Gr w (w.alloc o) := ⟨0, _, by rw [Sort.alloc_eq_grow]; rfl⟩
theorem Gr.alloc {w w1 : World} (h : Gr w w1) (o : Obj) : Gr w (w1.alloc o) := h.trans (Gr.one w1 o)
theorem Gr.below {w w' : World} (h : Gr w w') : Below w.heap.size w w' := by
  obtain ⟨q, os, rfl⟩ := h
  exact Lib.below_grow _ _ (Nat.le_refl _) _ _

set_option maxHeartbeats 400000 in
theorem proper_any (f u : Int) (w : World) :
    Calls Tryz.prog 33 #[.agg #[.int .i64 f, .int .i64 u]] w fun e w' => e = .returned (.bool (prp (f, u))) ∧ Gr w w' := by
  by_cases hf : 0 ≤ f ∧ f ≤ 100000
  · obtain ⟨f0, f1⟩ := hf
    by_cases hu : u = -1
    · have H := Lib.hid (show prp (f, u) = true by rw [prp_iff]; dsimp only; omega)
      have b : (u == -1) = true := by simp [hu]
      clear hu
      go_enter Tryz.func33, Tryz.ntmps33
      go_wp2_with fail
      refine (isDay_yes _ _ f0 f1).mono ?_
      rintro e w' ⟨rfl, rfl⟩
      go_wp2_with fail
      go_ret
      exact ⟨by rw [H.out]; rfl, Gr.one _ _⟩
    · have b : (u == -1) = false := by simp [hu]
      by_cases hd : 0 ≤ u ∧ u ≤ 100000
      · obtain ⟨u0, u1⟩ := hd
        by_cases hlt : f < u
        · have H := Lib.hid (show prp (f, u) = true by rw [prp_iff]; dsimp only; omega)
          clear hu
          go_enter Tryz.func33, Tryz.ntmps33
          go_wp2_with fail
          refine (isDay_yes _ _ f0 f1).mono ?_
          rintro e w' ⟨rfl, rfl⟩
          go_wp2_with fail
          refine (isDay_yes _ _ u0 u1).mono ?_
          rintro e w' ⟨rfl, rfl⟩
          go_wp2_with fail
          go_ret
          exact ⟨by rw [H.out]; rfl, Gr.one _ _⟩
        · have H := Lib.hid (show prp (f, u) = false by rw [← Bool.not_eq_true, prp_iff]; dsimp only; omega)
          have bl : decide (f < u) = false := by simp; omega
          clear hu
          go_enter Tryz.func33, Tryz.ntmps33
          go_wp2_with fail
          refine (isDay_yes _ _ f0 f1).mono ?_
          rintro e w' ⟨rfl, rfl⟩
          go_wp2_with fail
          refine (isDay_yes _ _ u0 u1).mono ?_
          rintro e w' ⟨rfl, rfl⟩
          go_wp2_with fail
          go_ret
          exact ⟨by rw [H.out]; rfl, Gr.one _ _⟩
      · have H := Lib.hid (show prp (f, u) = false by rw [← Bool.not_eq_true, prp_iff]; dsimp only; omega)
        have hd' : u < 0 ∨ 100000 < u := by omega
        clear hu hd
        go_enter Tryz.func33, Tryz.ntmps33
        go_wp2_with fail
        refine (isDay_yes _ _ f0 f1).mono ?_
        rintro e w' ⟨rfl, rfl⟩
        go_wp2_with fail
        refine (isDay_no _ _ hd').mono ?_
        rintro e w' ⟨rfl, rfl⟩
        go_wp2_with fail
        go_ret
        exact ⟨by rw [H.out]; rfl, Gr.one _ _⟩
  · have H := Lib.hid (show prp (f, u) = false by rw [← Bool.not_eq_true, prp_iff]; dsimp only; omega)
    have hf' : f < 0 ∨ 100000 < f := by omega
    clear hf
    go_enter Tryz.func33, Tryz.ntmps33
    go_wp2_with fail
    refine (isDay_no _ _ hf').mono ?_
    rintro e w' ⟨rfl, rfl⟩
    go_wp2_with fail
    go_ret
    exact ⟨by rw [H.out]; rfl, Gr.one _ _⟩

set_option maxHeartbeats 400000 in
theorem end_any (f u : Int) (w : World) :
    Calls Tryz.prog 37 #[.agg #[.int .i64 f, .int .i64 u]] w fun e w' => e = .returned (.int .i64 (en (f, u))) ∧ Gr w w' := by
  by_cases hu : u < 0
  · have H := Lib.hid (show en (f, u) = 100001 by unfold en; rw [if_pos hu])
    go_enter Tryz.func37, Tryz.ntmps37
    go_wp2
    go_ret
    exact ⟨by rw [H.out]; rfl, Gr.one _ _⟩
  · have H := Lib.hid (show en (f, u) = u by unfold en; rw [if_neg hu])
    go_enter Tryz.func37, Tryz.ntmps37
    go_wp2
    go_ret
    exact ⟨by rw [H.out]; rfl, Gr.one _ _⟩
end Go.Proofs.YtjebbmnjegndkaaGreatDoor
