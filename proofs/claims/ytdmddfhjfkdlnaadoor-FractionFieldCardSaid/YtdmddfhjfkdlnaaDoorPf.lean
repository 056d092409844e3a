/- Plain facts for the law FractionField. No program in sight. Under no condition. -/
import Derived.Test.YtdmddfhjfkdlnaaDoorPe
namespace Go.Proofs.YtdmddfhjfkdlnaaDoor

theorem vld_neg {a b : Int} (h : vld a b = true) : vld (-a) b = true := by
  obtain ⟨h1, h2, h3, h4⟩ := vld_iff.1 h
  exact vld_iff.2 ⟨h1, h2, by omega, by rw [Int.natAbs_neg]; exact h4⟩
theorem rat_neg (a b : Int) : rat (-a) b = -rat a b := by unfold rat; rw [Rat.neg_mkRat]
theorem zero_res : rN 0 = 0 ∧ rD 0 = 1 ∧ rE 0 = 0 := r_yes (r := 0) (by decide +kernel)
theorem rat_one : rat 1 1 = 1 := by decide +kernel
end Go.Proofs.YtdmddfhjfkdlnaaDoor
