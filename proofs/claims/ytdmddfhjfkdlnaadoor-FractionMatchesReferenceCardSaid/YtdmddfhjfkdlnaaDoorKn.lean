/- Plain facts on the division of a number of 128 bits by one of 64, by two digits of 32. No program in sight. Under no condition. -/
namespace Go.Proofs.YtdmddfhjfkdlnaaDoor

/-- one digit of the quotient -/
def qd (a b y : Nat) : Nat := (a * 4294967296 + b) / y
theorem qd_lt (a b y : Nat) (h : a < y) (hb : b < 4294967296) : qd a b y < 4294967296 := by
  unfold qd
  rw [Nat.div_lt_iff_lt_mul (by omega)]
  have : 4294967296 * (a + 1) ≤ 4294967296 * y := Nat.mul_le_mul_left _ h
  omega
theorem split_mul (q y1 y0 : Nat) : q * (y1 * 4294967296 + y0) = q * y1 * 4294967296 + q * y0 := by
  rw [Nat.mul_add, ← Nat.mul_assoc]
/-- a guess that is too great -/
theorem qd_high {a b y y1 y0 q r : Nat} (hy : y = y1 * 4294967296 + y0) (h1 : 0 < y1) (h : q * y1 + r = a) (hc : 4294967296 * r + b < q * y0) : qd a b y < q := by
  unfold qd
  rw [Nat.div_lt_iff_lt_mul (by omega), hy, split_mul]
  omega
/-- a guess that is not too great -/
theorem qd_low {a b y y1 y0 q r : Nat} (hy : y = y1 * 4294967296 + y0) (h1 : 0 < y1) (h : q * y1 + r = a) (hc : q * y0 ≤ 4294967296 * r + b) : q ≤ qd a b y := by
  unfold qd
  rw [Nat.le_div_iff_mul_le (by omega), hy, split_mul]
  omega
/-- the first guess -/
theorem qd_first {a b y y1 y0 : Nat} (hy : y = y1 * 4294967296 + y0) (h1 : 0 < y1) (hb : b < 4294967296) : qd a b y ≤ a / y1 := by
  have hh : y1 * (a / y1) + a % y1 = a := Nat.div_add_mod a y1
  have hm : a % y1 < y1 := Nat.mod_lt _ h1
  have : qd a b y < a / y1 + 1 := by
    unfold qd
    rw [Nat.div_lt_iff_lt_mul (by omega), hy, split_mul]
    have e : (a / y1 + 1) * y1 = y1 * (a / y1) + y1 := by rw [Nat.add_mul, Nat.one_mul, Nat.mul_comm]
    have : a + 1 ≤ (a / y1 + 1) * y1 := by omega
    have := Nat.mul_le_mul_right 4294967296 this
    omega
  omega
/-- a rest that is great -/
theorem qd_great {a b y y1 y0 q r : Nat} (hy : y = y1 * 4294967296 + y0) (h1 : 0 < y1) (h0 : y0 < 4294967296) (ha : a < y) (h : q * y1 + r = a) (hr : 4294967296 ≤ r) : q ≤ qd a b y := by
  refine qd_low hy h1 h ?_
  have hq : q < 4294967296 := by
    rcases Nat.lt_or_ge q 4294967296 with c | c
    · exact c
    · have := Nat.mul_le_mul_right y1 c
      omega
  have : q * y0 ≤ 4294967296 * 4294967296 := Nat.mul_le_mul (by omega) (by omega)
  omega
theorem qd_step {a y1 q r : Nat} (h : q * y1 + r = a) (hq : 0 < q) : (q - 1) * y1 + (r + y1) = a := by
  obtain ⟨k, rfl⟩ : ∃ k, q = k + 1 := ⟨q - 1, by omega⟩
  rw [Nat.add_mul, Nat.one_mul] at h
  simp only [Nat.add_sub_cancel]
  omega
/-- what is left behind a digit -/
def rd (a b y : Nat) : Nat := (a * 4294967296 + b) % y
theorem rd_eq (a b y : Nat) : a * 4294967296 + b = qd a b y * y + rd a b y := by
  unfold qd rd
  rw [Nat.mul_comm _ y]; exact (Nat.div_add_mod _ _).symm
theorem rd_lt (a b y : Nat) (h : 0 < y) : rd a b y < y := Nat.mod_lt _ h
/-- both digits -/
theorem two_digits (U a b c y : Nat) (hy : 0 < y) (hU : U = (a * 4294967296 + b) * 4294967296 + c) :
    U / y = qd a b y * 4294967296 + qd (rd a b y) c y ∧ U % y = rd (rd a b y) c y := by
  have e1 := rd_eq a b y
  have e2 := rd_eq (rd a b y) c y
  have hr := rd_lt (rd a b y) c y hy
  have e : U = rd (rd a b y) c y + (qd a b y * 4294967296 + qd (rd a b y) c y) * y := by
    rw [hU, e1, Nat.add_mul, Nat.add_mul, Nat.add_assoc, e2, Nat.mul_right_comm]
    generalize qd a b y * 4294967296 * y = u
    generalize qd (rd a b y) c y * y = v
    omega
  constructor
  · rw [e, Nat.add_mul_div_right _ _ hy, Nat.div_eq_of_lt hr, Nat.zero_add]
  · rw [e, Nat.add_mul_mod_self_right, Nat.mod_eq_of_lt hr]
/-- the parts that are shifted -/
theorem shifted (hi lo p q : Nat) (hp : p * q = 18446744073709551616) :
    (hi * p + lo / q) * 18446744073709551616 + lo * p % 18446744073709551616 = (hi * 18446744073709551616 + lo) * p := by
  have e : lo * p % (p * q) = p * (lo % q) := by rw [Nat.mul_comm lo p, Nat.mul_mod_mul_left]
  rw [← hp, e, Nat.add_mul, Nat.add_mul]
  have h1 : hi * p * (p * q) = hi * (p * q) * p := by rw [Nat.mul_assoc, Nat.mul_comm p (p * q), ← Nat.mul_assoc]
  have h2 : lo / q * (p * q) = p * (q * (lo / q)) := by
    rw [Nat.mul_comm (lo / q), Nat.mul_assoc]
  have h3 : p * (q * (lo / q)) + p * (lo % q) = lo * p := by
    rw [← Nat.mul_add, Nat.div_add_mod, Nat.mul_comm]
  omega
end Go.Proofs.YtdmddfhjfkdlnaaDoor
