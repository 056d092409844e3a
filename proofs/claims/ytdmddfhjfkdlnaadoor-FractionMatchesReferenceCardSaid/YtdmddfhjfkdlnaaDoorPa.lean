/- Plain facts on the steps of a sum. No program in sight. Under no condition. -/
import Derived.Test.YtdmddfhjfkdlnaaDoorPl
namespace Go.Proofs.YtdmddfhjfkdlnaaDoor

theorem gcd_mod_gcd (m n : Nat) : Nat.gcd (m % n) n = Nat.gcd m n := by
  rw [← Nat.gcd_rec, Nat.gcd_comm]
/-- the sum's terms as they are computed -/
theorem add_fin (a b c d S : Int) (hv : vld a b = true) (hv' : vld c d = true) (hS : S = a * ((d.natAbs / Nat.gcd b.natAbs d.natAbs : Nat) : Int) + c * ((b.natAbs / Nat.gcd b.natAbs d.natAbs : Nat) : Int)) :
    mdN (decide (S < 0)) (ov S.natAbs (Nat.gcd S.natAbs (Nat.gcd b.natAbs d.natAbs))) (ov (b.natAbs / Nat.gcd b.natAbs d.natAbs * (d.natAbs / Nat.gcd S.natAbs (Nat.gcd b.natAbs d.natAbs))) 1) = rN (rat a b + rat c d) ∧
    mdD (ov S.natAbs (Nat.gcd S.natAbs (Nat.gcd b.natAbs d.natAbs))) (ov (b.natAbs / Nat.gcd b.natAbs d.natAbs * (d.natAbs / Nat.gcd S.natAbs (Nat.gcd b.natAbs d.natAbs))) 1) = rD (rat a b + rat c d) ∧
    mdE (ov S.natAbs (Nat.gcd S.natAbs (Nat.gcd b.natAbs d.natAbs))) (ov (b.natAbs / Nat.gcd b.natAbs d.natAbs * (d.natAbs / Nat.gcd S.natAbs (Nat.gcd b.natAbs d.natAbs))) 1) = rE (rat a b + rat c d) := by
  obtain ⟨hb, _, _, _⟩ := vld_iff.1 hv
  obtain ⟨t1, t2⟩ := add_terms (rat a b) (rat c d) (Nat.gcd b.natAbs d.natAbs) (by rw [rat_den hv, rat_den hv']) S (by rw [rat_num hv, rat_num hv', rat_den hv, rat_den hv']; exact hS) _ rfl
  rw [rat_den hv, rat_den hv'] at t2
  have hg : 0 < Nat.gcd b.natAbs d.natAbs := Nat.gcd_pos_of_pos_left _ (by omega)
  have hx : 0 < Nat.gcd S.natAbs (Nat.gcd b.natAbs d.natAbs) := Nat.gcd_pos_of_pos_right _ hg
  have h1 : (rat a b + rat c d).num = if decide (S < 0) = true then -((S.natAbs / Nat.gcd S.natAbs (Nat.gcd b.natAbs d.natAbs) : Nat) : Int) else ((S.natAbs / Nat.gcd S.natAbs (Nat.gcd b.natAbs d.natAbs) : Nat) : Int) := by
    rw [t1]; simp only [decide_eq_true_eq]
  obtain ⟨m1, m2, m3⟩ := md_eq h1 t2
  obtain ⟨o1, o2, o3⟩ := md_ov (neg := decide (S < 0)) (a := S.natAbs) (b := b.natAbs / Nat.gcd b.natAbs d.natAbs * (d.natAbs / Nat.gcd S.natAbs (Nat.gcd b.natAbs d.natAbs))) (m := 1) hx (by decide)
  rw [Nat.div_one] at o1 o2 o3
  exact ⟨o1.trans m1, o2.trans m2, o3.trans m3⟩
theorem add_zero (a b c d S : Int) (hv : vld a b = true) (hv' : vld c d = true) (hS : S = a * ((d.natAbs / Nat.gcd b.natAbs d.natAbs : Nat) : Int) + c * ((b.natAbs / Nat.gcd b.natAbs d.natAbs : Nat) : Int)) (h : S = 0) : rat a b + rat c d = 0 := by
  obtain ⟨t1, _⟩ := add_terms (rat a b) (rat c d) (Nat.gcd b.natAbs d.natAbs) (by rw [rat_den hv, rat_den hv']) S (by rw [rat_num hv, rat_num hv', rat_den hv, rat_den hv']; exact hS) _ rfl
  rw [h] at t1
  exact Rat.num_eq_zero.1 (by rw [t1]; simp)
/-- the sum of two numbers by their signs -/
theorem add_signs (a c : Int) (p q : Nat) (S : Int) (hS : S = a * (p : Int) + c * (q : Int)) :
    (decide (a < 0) = decide (c < 0) → S.natAbs = a.natAbs * p + c.natAbs * q ∧ (S ≠ 0 → decide (S < 0) = decide (a < 0))) ∧
    (decide (a < 0) ≠ decide (c < 0) → (a.natAbs * p < c.natAbs * q → S.natAbs = c.natAbs * q - a.natAbs * p ∧ (S ≠ 0 → decide (S < 0) = !decide (a < 0))) ∧ (¬ a.natAbs * p < c.natAbs * q → S.natAbs = a.natAbs * p - c.natAbs * q ∧ (S ≠ 0 → decide (S < 0) = decide (a < 0)))) := by
  have e1 : a * (p : Int) = if a < 0 then -((a.natAbs * p : Nat) : Int) else ((a.natAbs * p : Nat) : Int) := by
    rw [Int.natCast_mul]; split
    · rw [show ((a.natAbs : Nat) : Int) = -a by omega, Int.neg_mul, Int.neg_neg]
    · rw [show ((a.natAbs : Nat) : Int) = a by omega]
  have e2 : c * (q : Int) = if c < 0 then -((c.natAbs * q : Nat) : Int) else ((c.natAbs * q : Nat) : Int) := by
    rw [Int.natCast_mul]; split
    · rw [show ((c.natAbs : Nat) : Int) = -c by omega, Int.neg_mul, Int.neg_neg]
    · rw [show ((c.natAbs : Nat) : Int) = c by omega]
  rw [e1, e2] at hS
  clear e1 e2
  generalize a.natAbs * p = x at *
  generalize c.natAbs * q = y at *
  by_cases ha : a < 0 <;> by_cases hc : c < 0
  all_goals simp only [ha, hc, if_true, if_false, decide_true, decide_false] at hS ⊢
  all_goals
    refine ⟨fun h => ?_, fun h => ⟨fun h' => ⟨?_, fun hz => ?_⟩, fun h' => ⟨?_, fun hz => ?_⟩⟩⟩
  all_goals first
    | (exact absurd rfl h)
    | (exfalso; revert h; decide)
    | (refine ⟨by omega, fun hz => ?_⟩; first | (exact decide_eq_true (by omega)) | (exact decide_eq_false (by omega)))
    | omega
    | (exact decide_eq_true (by omega))
    | (exact decide_eq_false (by omega))
    | (rw [Bool.not_true]; exact decide_eq_false (by omega))
    | (rw [Bool.not_false]; exact decide_eq_true (by omega))
end Go.Proofs.YtdmddfhjfkdlnaaDoor
