/- The contracts of math/bits.Div64 and Rem64 for all numbers. Under no condition but the types' own ranges. -/
import Derived.Test.YtdmddfhjfkdlnaaDoorC
namespace Go.Proofs.YtdmddfhjfkdlnaaDoor
open Go.RowKit

theorem bitLen_hi : ∀ (k x : Nat), k ≤ 64 → x < 2 ^ k → 0 < x → x < 2 ^ Lib.bitLen x ∧ 2 ^ (Lib.bitLen x - 1) ≤ x ∧ 1 ≤ Lib.bitLen x := by
  intro k
  induction k with
  | zero => intro x _ h h0; simp at h; omega
  | succ k ih =>
    intro x hk h h0
    have h64 : x < 2 ^ 64 := Nat.lt_of_lt_of_le h (Nat.pow_le_pow_right (by decide) hk)
    rw [Lib.bitLen_half x (by omega) h64]
    rcases Nat.eq_zero_or_pos (x / 2) with c | c
    · have : x = 1 := by omega
      subst this
      decide
    · have hx : x / 2 < 2 ^ k := by rw [Nat.pow_succ] at h; omega
      obtain ⟨a, b, c⟩ := ih (x / 2) (by omega) hx c
      refine ⟨?_, ?_, by omega⟩
      · rw [Nat.add_comm, Nat.pow_succ]; omega
      · have e : 1 + Lib.bitLen (x / 2) - 1 = (Lib.bitLen (x / 2) - 1) + 1 := by omega
        rw [e, Nat.pow_succ]; omega

theorem div64_any (hi lo y : Nat) (w : World) (hlo : lo < 18446744073709551616) (hy : y < 18446744073709551616) (h : hi < y)
    (hL : ∀ W, Calls Tryd.prog 62 #[.int .u64 y] W fun e w' => e = .returned (.int .i64 (64 - (Lib.bitLen y : Int))) ∧ W = w') :
    Calls Tryd.prog 55 #[.int .u64 hi, .int .u64 lo, .int .u64 y] w fun e w' => e = .returned (.tuple #[.int .u64 (((hi * 18446744073709551616 + lo) / y : Nat) : Int), .int .u64 (((hi * 18446744073709551616 + lo) % y : Nat) : Int)]) ∧ ∃ n, w' = w.drewN n := by
  rcases Nat.eq_zero_or_pos hi with c | h0
  · subst c
    simp only [Nat.zero_mul, Nat.zero_add]
    exact div64_low lo y w hlo hy (by omega)
  · obtain ⟨l1, l2, l3⟩ := bitLen_hi 64 y (by omega) hy (by omega)
    have l4 : Lib.bitLen y ≤ 64 := Lib.bitLen_le y 64 (by omega) hy
    obtain ⟨s, hs⟩ : ∃ s, s = 64 - Lib.bitLen y := ⟨_, rfl⟩
    have hL' : ∀ W, Calls Tryd.prog 62 #[.int .u64 y] W fun e w' => e = .returned (.int .i64 s) ∧ W = w' := by
      intro W; have := hL W; rwa [show (64 - (Lib.bitLen y : Int)) = (s : Int) by omega] at this
    have hpq : 2 ^ s * 2 ^ (64 - s) = 18446744073709551616 := by rw [← Nat.pow_add, show s + (64 - s) = 64 by omega]
    have hbl : 64 - s = Lib.bitLen y := by omega
    have p1 : y * 2 ^ s < 18446744073709551616 := by
      rw [← hpq, Nat.mul_comm (2 ^ s), hbl]; exact Nat.mul_lt_mul_of_pos_right l1 (Nat.two_pow_pos _)
    have p2 : 9223372036854775808 ≤ y * 2 ^ s := by
      have : 2 ^ (Lib.bitLen y - 1) * 2 ^ s = 9223372036854775808 := by rw [← Nat.pow_add, show Lib.bitLen y - 1 + s = 63 by omega]
      rw [← this]; exact Nat.mul_le_mul_right _ l2
    have p0 : 0 < 2 ^ s := Nat.two_pow_pos _
    have q0 : 0 < 2 ^ (64 - s) := Nat.two_pow_pos _
    have hp : 2 ^ s ≤ 9223372036854775808 := by
      have : 2 ^ s ≤ 2 ^ 63 := Nat.pow_le_pow_right (by decide) (by omega)
      omega
    have lq : lo / 2 ^ (64 - s) < 2 ^ s := Nat.div_lt_of_lt_mul (by rw [Nat.mul_comm, hpq]; exact hlo)
    have hor : (hi * 2 ^ s) ||| (lo / 2 ^ (64 - s)) = hi * 2 ^ s + lo / 2 ^ (64 - s) := by
      have := Nat.shiftLeft_add_eq_or_of_lt lq hi
      rw [Nat.shiftLeft_eq] at this
      exact this.symm
    have sh := shifted hi lo (2 ^ s) (2 ^ (64 - s)) hpq
    have hap : hi * 2 ^ s + 2 ^ s ≤ y * 2 ^ s := by
      have := Nat.mul_le_mul_right (2 ^ s) (show hi + 1 ≤ y from h)
      rwa [Nat.add_mul, Nat.one_mul] at this
    have c2 : ((2 : Int) ^ s) = ((2 ^ s : Nat) : Int) := by rw [Int.natCast_pow]; rfl
    have c3 : ((2 : Int) ^ (64 - s)) = ((2 ^ (64 - s) : Nat) : Int) := by rw [Int.natCast_pow]; rfl
    have hU : hi * 18446744073709551616 + lo = (hi * 18446744073709551616 + lo) := rfl
    have hd1 : (hi * 18446744073709551616 + lo) / y = (hi * 18446744073709551616 + lo) * 2 ^ s / (y * 2 ^ s) := (Nat.mul_div_mul_right _ _ p0).symm
    have hd2 : (hi * 18446744073709551616 + lo) % y = (hi * 18446744073709551616 + lo) * 2 ^ s % (y * 2 ^ s) / 2 ^ s := by
      rw [Nat.mul_mod_mul_right, Nat.mul_div_cancel _ p0]
    rw [hd1, hd2]
    have hs63 : s ≤ 63 := by omega
    clear hd1 hd2 hU hL l1 l2 l3 l4 hbl
    generalize (hi * 18446744073709551616 + lo) * 2 ^ s = U at *
    obtain ⟨Y, hY⟩ : ∃ Y, Y = y * 2 ^ s := ⟨_, rfl⟩
    obtain ⟨a, ha⟩ : ∃ a, a = hi * 2 ^ s + lo / 2 ^ (64 - s) := ⟨_, rfl⟩
    obtain ⟨u, hu⟩ : ∃ u, u = lo * 2 ^ s % 18446744073709551616 := ⟨_, rfl⟩
    have wY : IntKind.u64.wrap ((y : Int) * 2 ^ s) = (Y : Int) := by rw [c2, Mul64.mulN, ← hY]; exact Mul64.wrapN _ (by omega)
    have wA : bits .or .u64 (IntKind.u64.wrap ((hi : Int) * 2 ^ s)) ((lo : Int) / 2 ^ (64 - s)) = (a : Int) := by
      rw [c2, c3, Mul64.mulN, Mul64.wrapN _ (by omega), ← Int.natCast_ediv, bits_or_u64_nat _ _ (by omega) (by omega), hor, ha]
    have wU : IntKind.u64.wrap ((lo : Int) * 2 ^ s) = (u : Int) := by rw [c2, Mul64.mulN, Mul64.wrapM, hu]
    rw [← hY] at p1 p2 hap ⊢
    rw [← ha, ← hu] at sh
    have hub : u < 18446744073709551616 := by rw [hu]; exact Nat.mod_lt _ (by decide)
    have haY : a < Y := by omega
    have hsplit : Y = Y / 4294967296 * 4294967296 + Y % 4294967296 := by omega
    have y1b : 0 < Y / 4294967296 := by omega
    have hUe : U = (a * 4294967296 + u / 4294967296) * 4294967296 + u % 4294967296 := by omega
    obtain ⟨td1, td2⟩ := two_digits U a (u / 4294967296) (u % 4294967296) Y (by omega) hUe
    rw [td1, td2]
    have r1 := rd_eq a (u / 4294967296) Y
    have r2 := rd_eq (rd a (u / 4294967296) Y) (u % 4294967296) Y
    have rb1 := rd_lt a (u / 4294967296) Y (by omega)
    have rb2 := rd_lt (rd a (u / 4294967296) Y) (u % 4294967296) Y (by omega)
    have qb1 := qd_lt a (u / 4294967296) Y haY (by omega)
    have qb2 := qd_lt (rd a (u / 4294967296) Y) (u % 4294967296) Y rb1 (by omega)
    clear hY ha hu hor lq td1 td2 hUe sh hap hpq
    have quo : ∀ v : Nat, v < 18446744073709551616 → IntKind.u64.wrap ((v : Int) / ((Y / 4294967296 : Nat) : Int)) = ((v / (Y / 4294967296) : Nat) : Int) := by
      intro v hv
      rw [← Int.natCast_ediv]; exact Mul64.wrapN _ (by have := Nat.div_le_self v (Y / 4294967296); omega)
    have mulq : ∀ v : Nat, v < 18446744073709551616 → IntKind.u64.wrap (((v / (Y / 4294967296) : Nat) : Int) * ((Y / 4294967296 : Nat) : Int)) = ((v / (Y / 4294967296) * (Y / 4294967296) : Nat) : Int) := by
      intro v hv
      rw [Mul64.mulN]; exact Mul64.wrapN _ (by have := Nat.div_mul_le_self v (Y / 4294967296); omega)
    have remq : ∀ v : Nat, v < 18446744073709551616 → IntKind.u64.wrap ((v : Int) - ((v / (Y / 4294967296) * (Y / 4294967296) : Nat) : Int)) = ((v % (Y / 4294967296) : Nat) : Int) := by
      intro v hv
      have e := Nat.div_add_mod v (Y / 4294967296)
      rw [Nat.mul_comm] at e
      generalize v / (Y / 4294967296) * (Y / 4294967296) = m at *
      rw [IntKind.wrap_u64]; omega
    have fin : ∀ x b q z v : Nat, x * 4294967296 + b = q * z + v → v < 18446744073709551616 → IntKind.u64.wrap ((((x * 4294967296 % 18446744073709551616 + b) % 18446744073709551616 : Nat) : Int) - ((q * z % 18446744073709551616 : Nat) : Int)) = (v : Int) := by
      intro x b q z v e hv
      generalize q * z = m at *
      rw [IntKind.wrap_u64]; omega
    refine div64_high hi lo y s w h h0 hs63 hL' Y (Y / 4294967296) (Y % 4294967296) a u (u / 4294967296) (u % 4294967296) (rd a (u / 4294967296) Y) (qd a (u / 4294967296) Y) (qd (rd a (u / 4294967296) Y) (u % 4294967296) Y) _
      (a / (Y / 4294967296)) (a % (Y / 4294967296)) (a / (Y / 4294967296) * (Y / 4294967296)) (rd a (u / 4294967296) Y / (Y / 4294967296)) (rd a (u / 4294967296) Y % (Y / 4294967296)) (rd a (u / 4294967296) Y / (Y / 4294967296) * (Y / 4294967296))
      (a * 4294967296 % 18446744073709551616) ((a * 4294967296 % 18446744073709551616 + u / 4294967296) % 18446744073709551616) (qd a (u / 4294967296) Y * Y % 18446744073709551616)
      (rd a (u / 4294967296) Y * 4294967296 % 18446744073709551616) ((rd a (u / 4294967296) Y * 4294967296 % 18446744073709551616 + u % 4294967296) % 18446744073709551616) (qd (rd a (u / 4294967296) Y) (u % 4294967296) Y * Y % 18446744073709551616) (rd (rd a (u / 4294967296) Y) (u % 4294967296) Y)
      wY (Mul64.divN Y) (Mul64.maskN Y (by omega)) y1b (by omega) (by omega) (Lib.hid hsplit) wA haY wU (Mul64.divN u) (Mul64.maskN u hub) (by omega) (by omega)
      (quo a (by omega)) (mulq a (by omega)) (remq a (by omega)) (Lib.hid ⟨rfl, rfl⟩) (by have := Nat.div_le_self a (Y / 4294967296); omega) (by have := Nat.mod_lt a y1b; omega) (Lib.hid rfl) qb1
      (by have := Mul64.wrapM (a * 4294967296); rwa [Int.natCast_mul] at this) (by rw [Mul64.addN, Mul64.wrapM]) (by rw [Mul64.mulN, Mul64.wrapM]) (fin _ _ _ _ _ r1 (by omega)) rb1
      (quo _ (by omega)) (mulq _ (by omega)) (remq _ (by omega)) (Lib.hid ⟨rfl, rfl⟩) (by have := Nat.div_le_self (rd a (u / 4294967296) Y) (Y / 4294967296); omega) (by have := Nat.mod_lt (rd a (u / 4294967296) Y) y1b; omega) (Lib.hid rfl) qb2
      (by have := Mul64.wrapM (rd a (u / 4294967296) Y * 4294967296); rwa [Int.natCast_mul] at this) (by rw [Mul64.addN, Mul64.wrapM]) (by rw [Mul64.mulN, Mul64.wrapM]) (fin _ _ _ _ _ r2 (by omega)) (by rw [c2, ← Int.natCast_ediv])
end Go.Proofs.YtdmddfhjfkdlnaaDoor
