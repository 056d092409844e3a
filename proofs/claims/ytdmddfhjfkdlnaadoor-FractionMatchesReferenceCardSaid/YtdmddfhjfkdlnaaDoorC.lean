/- The contracts of math/bits.Div64 and Rem64. Under no condition but the types' own ranges. -/
import Derived.Test.YtdmddfhjfkdlnaaDoorA
import Derived.Test.YtdmddfhjfkdlnaaDoorKn
import Derived.Laws.Bits64b
import Derived.Shelf.Bits.Mul64
import Derived.Lib.BitFns
import Derived.Deep.DeepCutAuto
import Derived.Deep.CutBlock
namespace Go.Proofs.YtdmddfhjfkdlnaaDoor
open Go.RowKit

set_option maxHeartbeats 400000 in
theorem div64_low (lo y : Nat) (w : World) (hlo : lo < 18446744073709551616) (hy : y < 18446744073709551616) (h : 0 < y) :
    Calls Tryd.prog 55 #[.int .u64 0, .int .u64 lo, .int .u64 y] w fun e w' => e = .returned (.tuple #[.int .u64 ((lo / y : Nat) : Int), .int .u64 ((lo % y : Nat) : Int)]) ∧ ∃ n, w' = w.drewN n := by
  have b0 : ((y : Int) == 0) = false := by simp; omega
  go_enter Tryd.func55, Tryd.ntmps55
  go_wp2_with fail
  go_quiet (fail)
  go_wp2_with fail
  go_ret2
  refine ⟨?_, _, rfl⟩
  have e := Mul64.wrapN (lo / y) (by have := Nat.div_le_self lo y; omega)
  rw [Int.natCast_ediv] at e
  show Ending.returned (.tuple #[.int .u64 (IntKind.u64.wrap ((lo : Int) / (y : Int))), .int .u64 ((lo : Int) % (y : Int))]) = _
  rw [e, Int.natCast_ediv, Int.natCast_emod]
theorem half_mul {a b : Nat} (ha : a < 4294967296) (hb : b < 4294967296) : a * b < 18446744073709551616 := by
  have : a * b ≤ 4294967295 * 4294967295 := Nat.mul_le_mul (by omega) (by omega)
  omega
theorem pos_of {q y0 k x : Nat} (h : q * y0 = k) (hx : x < k) : 0 < q := by
  rcases Nat.eq_zero_or_pos q with c | c
  · subst c; rw [Nat.zero_mul] at h; omega
  · exact c
theorem first_guess {a b Y y1 y0 q r : Nat} (hy : Y = y1 * 4294967296 + y0) (h1 : 0 < y1) (hb : b < 4294967296) (h : q = a / y1 ∧ r = a % y1) : q * y1 + r = a ∧ qd a b Y ≤ q := by
  obtain ⟨rfl, rfl⟩ := h
  exact ⟨by rw [Nat.mul_comm]; exact Nat.div_add_mod a y1, qd_first hy h1 hb⟩
theorem high_one {a b Y y1 q r : Nat} (ha : a < Y) (hb : b < 4294967296) (h : q * y1 + r = a ∧ qd a b Y ≤ q) (c : 4294967296 ≤ q) : (q - 1) * y1 + (r + y1) = a ∧ qd a b Y ≤ q - 1 := by
  have := qd_lt a b Y ha hb
  exact ⟨qd_step h.1 (by omega), by omega⟩
theorem high_two {a b Y y1 y0 q r : Nat} (hy : Y = y1 * 4294967296 + y0) (h1 : 0 < y1) (h : q * y1 + r = a ∧ qd a b Y ≤ q) (c : 4294967296 * r + b < q * y0) : (q - 1) * y1 + (r + y1) = a ∧ qd a b Y ≤ q - 1 := by
  have := qd_high hy h1 h.1 c
  exact ⟨qd_step h.1 (by omega), by omega⟩
theorem end_great {a b Y y1 y0 q r Q : Nat} (hy : Y = y1 * 4294967296 + y0) (h1 : 0 < y1) (h0 : y0 < 4294967296) (ha : a < Y) (h : q * y1 + r = a ∧ qd a b Y ≤ q) (c : 4294967296 ≤ r) (hQ : Q = qd a b Y) : q = Q := by
  have := qd_great (b := b) hy h1 h0 ha h.1 c
  omega
theorem end_low {a b Y y1 y0 q r Q : Nat} (hy : Y = y1 * 4294967296 + y0) (h1 : 0 < y1) (h : q * y1 + r = a ∧ qd a b Y ≤ q) (c : ¬ 4294967296 * r + b < q * y0) (hQ : Q = qd a b Y) : q = Q := by
  have := qd_low (b := b) hy h1 h.1 (by omega)
  omega

set_option maxRecDepth 1000000 in
set_option maxHeartbeats 4000000 in
theorem div64_high (hi lo y s : Nat) (w : World) (h : hi < y) (h0 : 0 < hi) (hs : s ≤ 63)
   (hL : ∀ W, Calls Tryd.prog 62 #[.int .u64 y] W fun e w' => e = .returned (.int .i64 s) ∧ W = w')
   (Y y1 y0 a u b c v Q1 Q0 R q15 r15 m15 q18 r18 m18 t1 t2 t3 t4 t5 t6 t7 : Nat) (hY : IntKind.u64.wrap ((y : Int) * 2 ^ s) = (Y : Int)) (hY1 : (Y : Int) / 4294967296 = (y1 : Int)) (hY0 : bits .and .u64 (Y : Int) 4294967295 = (y0 : Int)) (h1 : 0 < y1) (h1' : y1 < 4294967296) (h0' : y0 < 4294967296) (HY : Hid (Y = y1 * 4294967296 + y0))
   (hA : bits .or .u64 (IntKind.u64.wrap ((hi : Int) * 2 ^ s)) ((lo : Int) / 2 ^ (64 - s)) = (a : Int)) (ha : a < Y)
   (hU : IntKind.u64.wrap ((lo : Int) * 2 ^ s) = (u : Int)) (hB : (u : Int) / 4294967296 = (b : Int)) (hC : bits .and .u64 (u : Int) 4294967295 = (c : Int)) (hb : b < 4294967296) (hc : c < 4294967296)
   (g15 : IntKind.u64.wrap ((a : Int) / (y1 : Int)) = (q15 : Int)) (gm15 : IntKind.u64.wrap ((q15 : Int) * (y1 : Int)) = (m15 : Int)) (gr15 : IntKind.u64.wrap ((a : Int) - (m15 : Int)) = (r15 : Int)) (G15 : Hid (q15 = a / y1 ∧ r15 = a % y1)) (q15b : q15 < 18446744073709551616) (r15b : r15 < 4294967296) (HQ15 : Hid (Q1 = qd a b Y)) (Q1b : Q1 < 4294967296)
   (e1 : IntKind.u64.wrap ((a : Int) * 4294967296) = (t1 : Int)) (e2 : IntKind.u64.wrap ((t1 : Int) + (b : Int)) = (t2 : Int)) (e3 : IntKind.u64.wrap ((Q1 : Int) * (Y : Int)) = (t3 : Int)) (e4 : IntKind.u64.wrap ((t2 : Int) - (t3 : Int)) = (v : Int)) (vb : v < Y)
   (g18 : IntKind.u64.wrap ((v : Int) / (y1 : Int)) = (q18 : Int)) (gm18 : IntKind.u64.wrap ((q18 : Int) * (y1 : Int)) = (m18 : Int)) (gr18 : IntKind.u64.wrap ((v : Int) - (m18 : Int)) = (r18 : Int)) (G18 : Hid (q18 = v / y1 ∧ r18 = v % y1)) (q18b : q18 < 18446744073709551616) (r18b : r18 < 4294967296) (HQ18 : Hid (Q0 = qd v c Y)) (Q0b : Q0 < 4294967296)
   (e5 : IntKind.u64.wrap ((v : Int) * 4294967296) = (t4 : Int)) (e6 : IntKind.u64.wrap ((t4 : Int) + (c : Int)) = (t5 : Int)) (e7 : IntKind.u64.wrap ((Q0 : Int) * (Y : Int)) = (t6 : Int)) (e8 : IntKind.u64.wrap ((t5 : Int) - (t6 : Int)) = (t7 : Int)) (e9 : (t7 : Int) / 2 ^ s = (R : Int)) :
    Calls Tryd.prog 55 #[.int .u64 hi, .int .u64 lo, .int .u64 y] w fun e w' => e = .returned (.tuple #[.int .u64 ((Q1 * 4294967296 + Q0 : Nat) : Int), .int .u64 (R : Int)]) ∧ ∃ n, w' = w.drewN n := by
  have b0 : ((y : Int) == 0) = false := by simp; omega
  have b1 : ((hi : Int) == 0) = false := by simp; omega
  have b2 : decide (y ≤ hi) = false := decide_eq_false (by omega)
  have b3 : ((y1 : Int) == 0) = false := by simp; omega
  have HL := Lib.hid hL
  clear hL
  go_enter Tryd.func55, Tryd.ntmps55
  go_wp2_with fail
  refine (HL.out _).mono ?_
  rintro e w' ⟨rfl, rfl⟩
  go_upto_block 0 with fail
  go_cut [15, 16] (fun s t wx => s = .int .u64 (Q1 : Nat) ∧ (∃ r : Nat, t = .int .u64 r) ∧ w = wx)
  case first =>
    go_wp2_with fail
    clear hU hB hC hA hY hY1 hY0 g15 gm15 gr15 g18 gm18 gr18 e1 e2 e3 e4 e5 e6 e7 e8 e9 HL b0 b1 b2
    have Q15b := Lib.hid q15b
    clear q15b q18b
    go_loop [15, 16] (fun s t => ∃ q r : Nat, s = .int .u64 q ∧ t = .int .u64 r ∧ r < 4294967296 ∧ Hid (q < 18446744073709551616) ∧ Hid (q * y1 + r = a ∧ qd a b Y ≤ q)) (fun s _ => (intOf s).toNat)
    case atStart => exact ⟨_, _, rfl, rfl, by omega, Q15b, Lib.hid (first_guess HY.out h1 (by omega) G15.out)⟩
    case round =>
      obtain ⟨q, r, rfl, rfl, hr, HB, HI⟩ := hrel
      by_cases cq : 4294967296 ≤ q
      · have HN := Lib.hid (high_one (by omega) (by omega) HI.out cq)
        have d1 : decide ((4294967296 : Int) ≤ (q : Int)) = true := decide_eq_true (by omega)
        have e0 : IntKind.u64.wrap ((q : Int) - 1) = ((q - 1 : Nat) : Int) := by rw [IntKind.wrap_u64]; have := HB.out; omega
        have hq1 : 0 < q := by omega
        by_cases cr : 4294967296 ≤ r + y1
        · have HE := Lib.hid (end_great HY.out h1 h0' (by omega) HN.out cr HQ15.out)
          have d3 : decide ((4294967296 : Int) ≤ (r : Int) + (y1 : Int)) = true := decide_eq_true (by omega)
          go_wp2_with fail
          go_meet
          case rel => exact ⟨(by first | (rw [← HE.out]; go_num) | rw [← HE.out]), ⟨r + y1, by go_num⟩, rfl⟩
        · have d3 : decide ((4294967296 : Int) ≤ (r : Int) + (y1 : Int)) = false := decide_eq_false (by omega)
          go_wp2_with fail
          go_round
          case rel => exact ⟨q - 1, r + y1, by go_num, by go_num, by omega, Lib.hid (by have := HB.out; omega), HN⟩
          case measure => simp [intOf]; omega
      · obtain ⟨k, hk⟩ : ∃ k, q * y0 = k := ⟨_, rfl⟩
        have d1 : decide ((4294967296 : Int) ≤ (q : Int)) = false := decide_eq_false (by omega)
        have hkb : k < 18446744073709551616 := by rw [← hk]; exact half_mul (by omega) h0'
        have e1 : IntKind.u64.wrap ((q : Int) * (y0 : Int)) = (k : Int) := by rw [Mul64.mulN, hk]; exact Mul64.wrapN _ hkb
        have HK := Lib.hid hk
        clear hk
        have HKB := Lib.hid hkb
        clear hkb
        by_cases ck : 4294967296 * r + b < k
        · have hq1 : 0 < q := pos_of HK.out ck
          have d2 : decide ((4294967296 : Int) * (r : Int) + (b : Int) < (k : Int)) = true := decide_eq_true (by omega)
          have HN := Lib.hid (high_two HY.out h1 HI.out (HK.out.symm ▸ ck))
          by_cases cr : 4294967296 ≤ r + y1
          · have HE := Lib.hid (end_great HY.out h1 h0' (by omega) HN.out cr HQ15.out)
            have d3 : decide ((4294967296 : Int) ≤ (r : Int) + (y1 : Int)) = true := decide_eq_true (by omega)
            go_wp2_with fail
            go_meet
            case rel => exact ⟨(by first | (rw [← HE.out]; go_num) | rw [← HE.out]), ⟨r + y1, by go_num⟩, rfl⟩
          · have d3 : decide ((4294967296 : Int) ≤ (r : Int) + (y1 : Int)) = false := decide_eq_false (by omega)
            go_wp2_with fail
            go_round
            case rel => exact ⟨q - 1, r + y1, by go_num, by go_num, by omega, Lib.hid (by have := HB.out; omega), HN⟩
            case measure => simp [intOf]; omega
        · have HE := Lib.hid (end_low HY.out h1 HI.out (HK.out.symm ▸ ck) HQ15.out)
          have d2 : decide ((4294967296 : Int) * (r : Int) + (b : Int) < (k : Int)) = false := decide_eq_false (by omega)
          go_wp2_with fail
          go_meet
          case rel => exact ⟨by rw [← HE.out], ⟨r, rfl⟩, rfl⟩
  case rest =>
    obtain ⟨rfl, ⟨r15, rfl⟩, rfl⟩ := hcut
    go_upto_block 2 with fail
    go_cut [18, 16] (fun s t wx => s = .int .u64 (Q0 : Nat) ∧ (∃ r : Nat, t = .int .u64 r) ∧ w = wx)
    case first =>
      go_wp2_with fail
      clear hU hB hC hA hY hY1 hY0 g15 gm15 gr15 g18 gm18 gr18 e1 e2 e3 e4 e5 e6 e7 e8 e9 HL b0 b1 b2
      have Q18b := Lib.hid q18b
      clear q15b q18b
      go_loop [18, 16] (fun s t => ∃ q r : Nat, s = .int .u64 q ∧ t = .int .u64 r ∧ r < 4294967296 ∧ Hid (q < 18446744073709551616) ∧ Hid (q * y1 + r = v ∧ qd v c Y ≤ q)) (fun s _ => (intOf s).toNat)
      case atStart => exact ⟨_, _, rfl, rfl, by omega, Q18b, Lib.hid (first_guess HY.out h1 (by omega) G18.out)⟩
      case round =>
        obtain ⟨q, r, rfl, rfl, hr, HB, HI⟩ := hrel
        by_cases cq : 4294967296 ≤ q
        · have HN := Lib.hid (high_one (by omega) (by omega) HI.out cq)
          have d1 : decide ((4294967296 : Int) ≤ (q : Int)) = true := decide_eq_true (by omega)
          have e0 : IntKind.u64.wrap ((q : Int) - 1) = ((q - 1 : Nat) : Int) := by rw [IntKind.wrap_u64]; have := HB.out; omega
          have hq1 : 0 < q := by omega
          by_cases cr : 4294967296 ≤ r + y1
          · have HE := Lib.hid (end_great HY.out h1 h0' (by omega) HN.out cr HQ18.out)
            have d3 : decide ((4294967296 : Int) ≤ (r : Int) + (y1 : Int)) = true := decide_eq_true (by omega)
            go_wp2_with fail
            go_meet
            case rel => exact ⟨(by first | (rw [← HE.out]; go_num) | rw [← HE.out]), ⟨r + y1, by go_num⟩, rfl⟩
          · have d3 : decide ((4294967296 : Int) ≤ (r : Int) + (y1 : Int)) = false := decide_eq_false (by omega)
            go_wp2_with fail
            go_round
            case rel => exact ⟨q - 1, r + y1, by go_num, by go_num, by omega, Lib.hid (by have := HB.out; omega), HN⟩
            case measure => simp [intOf]; omega
        · obtain ⟨k, hk⟩ : ∃ k, q * y0 = k := ⟨_, rfl⟩
          have d1 : decide ((4294967296 : Int) ≤ (q : Int)) = false := decide_eq_false (by omega)
          have hkb : k < 18446744073709551616 := by rw [← hk]; exact half_mul (by omega) h0'
          have e1 : IntKind.u64.wrap ((q : Int) * (y0 : Int)) = (k : Int) := by rw [Mul64.mulN, hk]; exact Mul64.wrapN _ hkb
          have HK := Lib.hid hk
          clear hk
          have HKB := Lib.hid hkb
          clear hkb
          by_cases ck : 4294967296 * r + c < k
          · have hq1 : 0 < q := pos_of HK.out ck
            have d2 : decide ((4294967296 : Int) * (r : Int) + (c : Int) < (k : Int)) = true := decide_eq_true (by omega)
            have HN := Lib.hid (high_two HY.out h1 HI.out (HK.out.symm ▸ ck))
            by_cases cr : 4294967296 ≤ r + y1
            · have HE := Lib.hid (end_great HY.out h1 h0' (by omega) HN.out cr HQ18.out)
              have d3 : decide ((4294967296 : Int) ≤ (r : Int) + (y1 : Int)) = true := decide_eq_true (by omega)
              go_wp2_with fail
              go_meet
              case rel => exact ⟨(by first | (rw [← HE.out]; go_num) | rw [← HE.out]), ⟨r + y1, by go_num⟩, rfl⟩
            · have d3 : decide ((4294967296 : Int) ≤ (r : Int) + (y1 : Int)) = false := decide_eq_false (by omega)
              go_wp2_with fail
              go_round
              case rel => exact ⟨q - 1, r + y1, by go_num, by go_num, by omega, Lib.hid (by have := HB.out; omega), HN⟩
              case measure => simp [intOf]; omega
          · have HE := Lib.hid (end_low HY.out h1 HI.out (HK.out.symm ▸ ck) HQ18.out)
            have d2 : decide ((4294967296 : Int) * (r : Int) + (c : Int) < (k : Int)) = false := decide_eq_false (by omega)
            go_wp2_with fail
            go_meet
            case rel => exact ⟨by rw [← HE.out], ⟨r, rfl⟩, rfl⟩
    case rest =>
      obtain ⟨rfl, ⟨r18, rfl⟩, rfl⟩ := hcut
      go_wp2_with fail
      go_ret2
      exact ⟨rfl, 0, rfl⟩
end Go.Proofs.YtdmddfhjfkdlnaaDoor
