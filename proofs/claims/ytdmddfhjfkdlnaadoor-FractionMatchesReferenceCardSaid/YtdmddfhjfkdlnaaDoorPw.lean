/- Plain facts on the greatest common divisor by halves. No program in sight. Under no condition. -/
import Derived.Test.YtdmddfhjfkdlnaaDoorPy
namespace Go.Proofs.YtdmddfhjfkdlnaaDoor

theorem bin_even {x : Nat} (h : x ≠ 0) (h2 : x % 2 = 0) : bin x = 0 :: bin (x / 2) := by rw [bin_pos h, h2]
theorem bin_odd {x : Nat} (h2 : x % 2 = 1) : bin x = 1 :: bin (x / 2) := by rw [bin_pos (by omega), h2]
theorem bin_twos (t g : Nat) (h : g ≠ 0) : bin (2 ^ t * g) = List.replicate t 0 ++ bin g := by
  induction t with
  | zero => simp
  | succ t ih =>
    have e : 2 ^ (t + 1) * g = 2 * (2 ^ t * g) := by rw [Nat.pow_succ, Nat.mul_comm (2 ^ t) 2, Nat.mul_assoc]
    have hp : 0 < 2 ^ t * g := Nat.mul_pos (Nat.two_pow_pos t) (by omega)
    rw [e, bin_even (by omega) (by omega), List.replicate_succ, List.cons_append, ← ih]
    congr 2
    omega
theorem gcd_both {X Y t x y : Nat} (h : Nat.gcd X Y = 2 ^ t * Nat.gcd x y) (hx : x % 2 = 0) (hy : y % 2 = 0) : Nat.gcd X Y = 2 ^ (t + 1) * Nat.gcd (x / 2) (y / 2) := by
  have e1 : x = 2 * (x / 2) := by omega
  have e2 : y = 2 * (y / 2) := by omega
  have e3 : 2 * Nat.gcd (x / 2) (y / 2) = Nat.gcd x y := by rw [← Nat.gcd_mul_left, ← e1, ← e2]
  rw [h, Nat.pow_succ, Nat.mul_assoc, e3]
theorem gcd_left {x y : Nat} (hx : x % 2 = 0) (hy : y % 2 = 1) : Nat.gcd (x / 2) y = Nat.gcd x y := by
  have e1 : x = 2 * (x / 2) := by omega
  have hc : Nat.Coprime 2 y := by
    unfold Nat.Coprime
    rw [Nat.gcd_rec, hy]; simp
  conv => rhs; rw [e1]
  rw [Nat.Coprime.gcd_mul_left_cancel _ hc]
theorem gcd_right {x y : Nat} (hx : x % 2 = 1) (hy : y % 2 = 0) : Nat.gcd x (y / 2) = Nat.gcd x y := by
  rw [Nat.gcd_comm, gcd_left hy hx, Nat.gcd_comm]
theorem gcd_less {x y : Nat} (h : x ≤ y) : Nat.gcd x (y - x) = Nat.gcd x y := by
  have e : y = x + (y - x) := by omega
  conv => rhs; rw [e]
  simp
theorem gcd_more {x y : Nat} (h : y ≤ x) : Nat.gcd (x - y) y = Nat.gcd x y := by
  rw [Nat.gcd_comm, gcd_less h, Nat.gcd_comm]
end Go.Proofs.YtdmddfhjfkdlnaaDoor
