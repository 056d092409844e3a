/- Plain facts for the laws on fractions. No program in sight. Under no condition. -/
import Derived.Test.YtdmddfhjfkdlnaaDoorPb
namespace Go.Proofs.YtdmddfhjfkdlnaaDoor

theorem vld_int (n : Int) (h : n.natAbs ≤ 4611686018427387904) : vld n 1 = true := vld_iff.2 ⟨by decide, by decide, h, Nat.gcd_one_right _⟩
theorem of_rat (n d : Int) (hd : 0 < d) : Rat.divInt n d = rat n d := by
  unfold rat; rw [← Rat.divInt_ofNat]; congr 1; omega
theorem of_int (n : Int) (h : n.natAbs ≤ 4611686018427387904) : rN (Rat.divInt n 1) = n ∧ rD (Rat.divInt n 1) = 1 ∧ rE (Rat.divInt n 1) = 0 := by
  rw [of_rat n 1 (by decide)]; exact r_vld (vld_int n h)
theorem of_big (n : Int) (h : 4611686018427387904 < n.natAbs) : rN (Rat.divInt n 1) = 0 ∧ rD (Rat.divInt n 1) = 0 ∧ rE (Rat.divInt n 1) = 9 := by
  refine r_no ?_
  have hn : (Rat.divInt n 1).num = n := by
    obtain ⟨t1, _⟩ := of_terms n 1 (by decide)
    rw [t1]
    simp only [show Int.natAbs 1 = 1 from rfl, Nat.gcd_one_right, Nat.div_one]
    by_cases c : n < 0
    · simp only [c, decide_true, show decide ((1 : Int) < 0) = false from rfl, Bool.bne_false, if_true]; omega
    · simp only [c, decide_false, show decide ((1 : Int) < 0) = false from rfl, Bool.bne_false, Bool.false_eq_true, if_false]; omega
  rw [← Bool.not_eq_true, fit_iff, hn]; omega
theorem cmp_le (a b c d : Int) (h : vld a b = true) (h' : vld c d = true) : cmp a b c d ≤ 0 ↔ rat a b ≤ rat c d := by
  unfold cmp
  split
  · rename_i e; obtain ⟨rfl, rfl⟩ := e; exact ⟨fun _ => Rat.le_refl, fun _ => Int.le_refl _⟩
  · rename_i e
    split
    · rename_i l; exact ⟨fun _ => Rat.le_of_lt l, fun _ => by decide⟩
    · rename_i l
      refine ⟨fun x => absurd x (by decide), fun x => ?_⟩
      exfalso
      exact e (rat_inj h h' (Rat.le_antisymm x (Rat.not_lt.1 l)))
theorem cmp_lt (a b c d : Int) : cmp a b c d < 0 ↔ rat a b < rat c d := by
  unfold cmp
  split
  · rename_i e; obtain ⟨rfl, rfl⟩ := e; exact ⟨fun x => absurd x (by decide), fun x => absurd x Rat.lt_irrefl⟩
  · split
    · rename_i l; exact ⟨fun _ => l, fun _ => by decide⟩
    · rename_i l; exact ⟨fun x => absurd x (by decide), fun x => absurd x l⟩
theorem cmp_zero (a b c d : Int) : cmp a b c d = 0 ↔ (a = c ∧ b = d) := by
  unfold cmp
  split
  · rename_i e; exact ⟨fun _ => e, fun _ => rfl⟩
  · rename_i e
    split
    · exact ⟨fun x => absurd x (by decide), fun x => absurd x e⟩
    · exact ⟨fun x => absurd x (by decide), fun x => absurd x e⟩
theorem cmp_bd (a b c d : Int) : -1 ≤ cmp a b c d ∧ cmp a b c d ≤ 1 := by
  unfold cmp; split
  · decide
  · split <;> decide
theorem cmp_anti (a b c d : Int) (h : vld a b = true) (h' : vld c d = true) : cmp a b c d = -cmp c d a b := by
  have b1 := cmp_bd a b c d
  have b2 := cmp_bd c d a b
  have z1 := cmp_zero a b c d
  have z2 := cmp_zero c d a b
  have l1 := cmp_lt a b c d
  have l2 := cmp_lt c d a b
  by_cases e : a = c ∧ b = d
  · have := z1.2 e; have := z2.2 ⟨e.1.symm, e.2.symm⟩; omega
  · have n1 : ¬ cmp a b c d = 0 := fun x => e (z1.1 x)
    have n2 : ¬ cmp c d a b = 0 := fun x => e (by have := z2.1 x; exact ⟨this.1.symm, this.2.symm⟩)
    by_cases l : rat a b < rat c d
    · have := l1.2 l
      have : ¬ cmp c d a b < 0 := fun x => by
        have := l2.1 x
        exact Rat.lt_irrefl (Rat.lt_of_le_of_ne (Rat.le_trans (Rat.le_of_lt l) (Rat.le_of_lt this)) (fun e2 => by
          have := Rat.le_of_lt this
          exact absurd (Rat.le_antisymm (Rat.le_of_lt l) this) (Rat.ne_of_lt l)))
      omega
    · have : ¬ cmp a b c d < 0 := fun x => l (l1.1 x)
      have hle : rat c d ≤ rat a b := Rat.not_lt.1 l
      have : rat c d < rat a b := Rat.lt_of_le_of_ne hle (fun x => e (by have := rat_inj h' h x; exact ⟨this.1.symm, this.2.symm⟩))
      have := l2.2 this
      omega
theorem flr_bd (a b : Int) (h : vld a b = true) : (flr a b).natAbs ≤ 4611686018427387904 ∧ flr a b * b ≤ a ∧ a < (flr a b + 1) * b := by
  obtain ⟨hb, _, ha, _⟩ := vld_iff.1 h
  unfold flr
  have h2 := Int.mul_ediv_add_emod a b
  have h3 := Int.emod_nonneg a (show b ≠ 0 by omega)
  have h4 := Int.emod_lt_of_pos a hb
  have e1 : a / b * b = b * (a / b) := Int.mul_comm _ _
  have e2 : (a / b + 1) * b = b * (a / b) + b := by rw [Int.add_mul, Int.one_mul, e1]
  refine ⟨?_, by omega, by omega⟩
  have l1 : a / b ≤ 4611686018427387904 := by
    have := Int.ediv_le_ediv hb (show a ≤ 4611686018427387904 by omega)
    have := Int.ediv_le_self b (show (0 : Int) ≤ 4611686018427387904 by decide)
    omega
  have l2 : -4611686018427387904 ≤ a / b := by
    rw [Int.le_ediv_iff_mul_le hb]
    omega
  omega
theorem flr_low (a b : Int) (h : vld a b = true) : cmp (flr a b) 1 a b ≤ 0 := by
  obtain ⟨h1, h2, h3⟩ := flr_bd a b h
  rw [cmp_le _ _ _ _ (vld_int _ h1) h, le_cross (vld_int _ h1) h]
  omega
theorem flr_high (a b : Int) (h : vld a b = true) (hh : (flr a b + 1).natAbs ≤ 4611686018427387904) : cmp a b (flr a b + 1) 1 < 0 := by
  obtain ⟨h1, h2, h3⟩ := flr_bd a b h
  rw [cmp_lt, lt_cross h (vld_int _ hh)]
  omega
theorem flr_one (a : Int) : flr a 1 = a := by unfold flr; simp
end Go.Proofs.YtdmddfhjfkdlnaaDoor
