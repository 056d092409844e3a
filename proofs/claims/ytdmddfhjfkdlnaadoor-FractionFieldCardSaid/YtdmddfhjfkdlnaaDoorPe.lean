/- Plain facts for the law FractionResults. No program in sight. Under no condition. -/
import Derived.Test.YtdmddfhjfkdlnaaDoorPc
import Derived.Test.YtdmddfhjfkdlnaaDoorPa
namespace Go.Proofs.YtdmddfhjfkdlnaaDoor

theorem res_vld (r : Rat) (h : rE r = 0) : vld (rN r) (rD r) = true := by
  cases f : fit r
  · obtain ⟨_, _, e⟩ := r_no f; omega
  · obtain ⟨e1, e2, _⟩ := r_yes f
    rw [e1, e2]; exact fit_vld f
theorem res_rat (r : Rat) (h : rE r = 0) : rat (rN r) (rD r) = r := by
  cases f : fit r
  · obtain ⟨_, _, e⟩ := r_no f; omega
  · obtain ⟨e1, e2, _⟩ := r_yes f
    rw [e1, e2]; exact rat_self r
theorem res_err (r : Rat) : rE r = 0 ∨ rE r = 9 := by unfold rE; split <;> simp
/-- a quotient times its divisor -/
theorem quo_back (m n : Int) (hn : n ≠ 0) : Rat.divInt m n * Rat.divInt n 1 = Rat.divInt m 1 := by
  rw [Rat.divInt_mul_divInt, Int.mul_comm m n, Rat.divInt_mul_left hn]
theorem small_mul {p q : Nat} (hp : p ≤ 1000000000) (hq : q ≤ 1000000000) : p * q ≤ 1000000000000000000 := Nat.mul_le_mul hp hq
/-- small terms: the sum and the product are representable -/
theorem small_fit {a b c d : Int} (h : vld a b = true) (h' : vld c d = true) (ha : a.natAbs ≤ 1000000000) (hb : b ≤ 1000000000) (hc : c.natAbs ≤ 1000000000) (hd : d ≤ 1000000000) :
    fit (rat a b + rat c d) = true ∧ fit (rat a b * rat c d) = true := by
  obtain ⟨b0, _, _, _⟩ := vld_iff.1 h
  obtain ⟨d0, _, _, _⟩ := vld_iff.1 h'
  constructor
  · rw [fit_iff]
    obtain ⟨t1, t2⟩ := add_terms (rat a b) (rat c d) _ rfl _ rfl _ rfl
    rw [rat_num h, rat_num h', rat_den h, rat_den h'] at t1 t2
    rw [t1, t2, nabs]
    have sg := add_signs a c (d.natAbs / Nat.gcd b.natAbs d.natAbs) (b.natAbs / Nat.gcd b.natAbs d.natAbs) _ rfl
    have l1 := Nat.div_le_self d.natAbs (Nat.gcd b.natAbs d.natAbs)
    have l2 := Nat.div_le_self b.natAbs (Nat.gcd b.natAbs d.natAbs)
    have m1 : a.natAbs * (d.natAbs / Nat.gcd b.natAbs d.natAbs) ≤ 1000000000000000000 := small_mul ha (by omega)
    have m2 : c.natAbs * (b.natAbs / Nat.gcd b.natAbs d.natAbs) ≤ 1000000000000000000 := small_mul hc (by omega)
    generalize hS : a * ((d.natAbs / Nat.gcd b.natAbs d.natAbs : Nat) : Int) + c * ((b.natAbs / Nat.gcd b.natAbs d.natAbs : Nat) : Int) = S at *
    have hs : S.natAbs ≤ 2000000000000000000 := by
      by_cases e : decide (a < 0) = decide (c < 0)
      · rw [(sg.1 e).1]; omega
      · by_cases e' : a.natAbs * (d.natAbs / Nat.gcd b.natAbs d.natAbs) < c.natAbs * (b.natAbs / Nat.gcd b.natAbs d.natAbs)
        · rw [((sg.2 e).1 e').1]; omega
        · rw [((sg.2 e).2 e').1]; omega
    have l3 := Nat.div_le_self S.natAbs (Nat.gcd S.natAbs (Nat.gcd b.natAbs d.natAbs))
    have l4 := Nat.div_le_self d.natAbs (Nat.gcd S.natAbs (Nat.gcd b.natAbs d.natAbs))
    have m3 : b.natAbs / Nat.gcd b.natAbs d.natAbs * (d.natAbs / Nat.gcd S.natAbs (Nat.gcd b.natAbs d.natAbs)) ≤ 1000000000000000000 := small_mul (by omega) (by omega)
    exact ⟨by omega, by omega⟩
  · rw [fit_iff]
    obtain ⟨t1, t2⟩ := mul_terms (rat a b) (rat c d)
    rw [rat_num h, rat_num h', rat_den h, rat_den h'] at t1 t2
    rw [t1, t2, nabs]
    have l1 := Nat.div_le_self a.natAbs (Nat.gcd a.natAbs d.natAbs)
    have l2 := Nat.div_le_self c.natAbs (Nat.gcd c.natAbs b.natAbs)
    have l3 := Nat.div_le_self b.natAbs (Nat.gcd c.natAbs b.natAbs)
    have l4 := Nat.div_le_self d.natAbs (Nat.gcd a.natAbs d.natAbs)
    have m1 : a.natAbs / Nat.gcd a.natAbs d.natAbs * (c.natAbs / Nat.gcd c.natAbs b.natAbs) ≤ 1000000000000000000 := small_mul (by omega) (by omega)
    have m2 : b.natAbs / Nat.gcd c.natAbs b.natAbs * (d.natAbs / Nat.gcd a.natAbs d.natAbs) ≤ 1000000000000000000 := small_mul (by omega) (by omega)
    exact ⟨by omega, by omega⟩
end Go.Proofs.YtdmddfhjfkdlnaaDoor
