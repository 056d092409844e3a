/- Plain facts for the law FractionOrder. No program in sight. Under no condition. -/
import Derived.Test.YtdmddfhjfkdlnaaDoorPc
namespace Go.Proofs.YtdmddfhjfkdlnaaDoor

theorem cmp_trans (a b c d p q : Int) (h : vld a b = true) (h' : vld c d = true) (h'' : vld p q = true) (h1 : cmp a b c d ≤ 0) (h2 : cmp c d p q ≤ 0) :
    cmp a b p q ≤ 0 ∧ (cmp a b c d < 0 → cmp a b p q < 0) := by
  rw [cmp_le _ _ _ _ h h'] at h1
  rw [cmp_le _ _ _ _ h' h''] at h2
  refine ⟨(cmp_le _ _ _ _ h h'').2 (Rat.le_trans h1 h2), fun h3 => ?_⟩
  rw [cmp_lt] at h3 ⊢
  refine Rat.lt_of_le_of_ne (Rat.le_trans h1 h2) (fun e => ?_)
  rw [← e] at h2
  exact Rat.ne_of_lt h3 (Rat.le_antisymm h1 h2)
/-- sums with the same number are ordered as the numbers -/
theorem cmp_add (a b c d p q : Int) (h : vld a b = true) (h' : vld c d = true) (f1 : fit (rat a b + rat p q) = true) (f2 : fit (rat c d + rat p q) = true) :
    cmp (rat a b + rat p q).num (rat a b + rat p q).den (rat c d + rat p q).num (rat c d + rat p q).den = cmp a b c d := by
  have v1 := fit_vld f1
  have v2 := fit_vld f2
  by_cases e : a = c ∧ b = d
  · obtain ⟨rfl, rfl⟩ := e
    rw [(cmp_zero _ _ _ _).2 ⟨rfl, rfl⟩, (cmp_zero _ _ _ _).2 ⟨rfl, rfl⟩]
  · have hne : ¬ ((rat a b + rat p q).num = (rat c d + rat p q).num ∧ ((rat a b + rat p q).den : Int) = (rat c d + rat p q).den) := fun x => by
      have : rat a b + rat p q = rat c d + rat p q := Rat.ext x.1 (by omega)
      exact e (rat_inj h h' (Rat.add_right_cancel _ this))
    unfold cmp
    rw [if_neg e, if_neg hne, rat_self, rat_self]
    by_cases l : rat a b < rat c d
    · rw [if_pos l, if_pos (Rat.add_lt_add_right.2 l)]
    · rw [if_neg l, if_neg (fun x => l (Rat.add_lt_add_right.1 x))]
end Go.Proofs.YtdmddfhjfkdlnaaDoor
