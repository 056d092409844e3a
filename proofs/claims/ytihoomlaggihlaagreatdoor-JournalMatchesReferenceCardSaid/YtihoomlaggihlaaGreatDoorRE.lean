/- The contracts of the reference's mix, Sum, digits, zeros, seal, Head and sector. Under no condition but sizes. -/
/- The contracts of the reference's number, count and piece. Under no condition but sizes. -/
/- The contract of the reference's Parse. Under no condition but sizes. -/
import Derived.Test.YtihoomlaggihlaaGreatDoorRP
import Derived.Test.YtihoomlaggihlaaGreatDoorJZ
import Derived.Test.YtihoomlaggihlaaGreatDoorKF
import Derived.Deep.RegionHeld3
import Derived.Deep.RegionWith
import Derived.Deep.DeepCutAuto
import Derived.Lib.QuietBelow
namespace Go.Proofs.YtihoomlaggihlaaGreatDoor
open Go.RowKit

set_option maxHeartbeats 2000000 in
set_option maxRecDepth 100000 in
theorem rmix_any (w : World) (x : Nat) (hx : x < 18446744073709551616) :
    Calls Tryz.prog 115 #[.int .u64 x] w fun e w' => e = .returned (.int .u64 (mixN x)) ∧ w = w' := by
  have HM := Lib.hid (mix_sh x)
  have HA := Lib.hid (mixA x hx)
  have HB := Lib.hid (mixB ((x ^^^ x / 2147483648) * 11400714819323198485 % 18446744073709551616) (Nat.mod_lt _ (by decide)))
  have HC := Lib.hid (mixC (((x ^^^ x / 2147483648) * 11400714819323198485 % 18446744073709551616 ^^^ (x ^^^ x / 2147483648) * 11400714819323198485 % 18446744073709551616 / 134217728) * 15074714826142052245 % 18446744073709551616) (Nat.mod_lt _ (by decide)))
  generalize mixN x = m at *
  go_enter Tryz.func115, Tryz.ntmps115
  go_wp2_with fail
  go_ret
  refine ⟨?_, rfl⟩
  rw [HM.out, ← HC.out, ← HB.out, ← HA.out]
  rfl
theorem pre_next (K : Nat) (l : List UInt8) (j : Nat) (hj : j < 8) :
    (∀ (h : K + j < l.length), IntKind.u64.wrap (IntKind.u64.wrap ((pre j (l.drop K) : Int) * 256) + IntKind.u64.wrap ((((⟨l.toArray⟩ : ByteArray)[K + j]'(by simpa [ByteArray.size] using h)).toNat : Nat) : Int)) = ((pre (j + 1) (l.drop K) : Nat) : Int)) ∧ (l.length ≤ K + j → IntKind.u64.wrap ((pre j (l.drop K) : Int) * 256) = ((pre (j + 1) (l.drop K) : Nat) : Int)) := by
  have h1 := pre_lt (l.drop K) j
  have h3 : 256 ^ j ≤ 256 ^ 7 := Nat.pow_le_pow_right (by decide) (by omega)
  have h4 : pre j (l.drop K) < 72057594037927936 := Nat.lt_of_lt_of_le h1 h3
  refine ⟨fun h => ?_, fun h => ?_⟩
  · have h2 := (l[K + j]).toNat_lt
    have e : (l.drop K).getD j 0 = l[K + j] := by rw [List.getD_eq_getElem?_getD, List.getElem?_drop, List.getElem?_eq_getElem h]; rfl
    have e2 : ((⟨l.toArray⟩ : ByteArray)[K + j]'(by simpa [ByteArray.size] using h)) = l[K + j] := rfl
    rw [pre_succ, e, e2, IntKind.wrap_u64, IntKind.wrap_u64, IntKind.wrap_u64]; omega
  · have e : (l.drop K).getD j 0 = 0 := by rw [List.getD_eq_getElem?_getD, List.getElem?_drop, List.getElem?_eq_none h]; rfl
    rw [pre_succ, e, IntKind.wrap_u64]
    simp
    omega
set_option maxRecDepth 100000 in
theorem hex_app (r : Nat) (h : r < 16) (s : List UInt8) : ({ data := #[48, 49, 50, 51, 52, 53, 54, 55, 56, 57, 97, 98, 99, 100, 101, 102] } : ByteArray).extract r (r + 1) ++ { data := s.toArray } = ⟨(hd r :: s).toArray⟩ := by
  have e : ({ data := #[48, 49, 50, 51, 52, 53, 54, 55, 56, 57, 97, 98, 99, 100, 101, 102] } : ByteArray).extract r (r + 1) = ⟨#[hd r]⟩ := by
    by_cases h8 : r < 8
    · match r, h8 with
      | 0, _ => rfl | 1, _ => rfl | 2, _ => rfl | 3, _ => rfl | 4, _ => rfl | 5, _ => rfl | 6, _ => rfl | 7, _ => rfl
    · obtain ⟨q, rfl⟩ : ∃ q, r = q + 8 := ⟨r - 8, by omega⟩
      have hq : q < 8 := by omega
      match q, hq with
      | 0, _ => rfl | 1, _ => rfl | 2, _ => rfl | 3, _ => rfl | 4, _ => rfl | 5, _ => rfl | 6, _ => rfl | 7, _ => rfl
  rw [e]
  apply ByteArray.ext; simp
set_option maxHeartbeats 8000000 in
set_option maxRecDepth 100000 in
theorem rsum_any (w : World) (l : List UInt8) (hl : l.length ≤ 100000) :
    Calls Tryz.prog 101 #[.string ⟨l.toArray⟩] w fun e w' => e = .returned (.string ⟨(dig l).toArray⟩) ∧ w = w' := by
  have hsz : (⟨l.toArray⟩ : ByteArray).size = l.length := by simp [ByteArray.size]
  have hx : bits .xor .u64 7640891576956012809 (l.length : Int) = ((7640891576956012809 ^^^ l.length : Nat) : Int) := bits_xor_u64_nat 7640891576956012809 l.length (by decide) (by omega)
  have HS0 : Hid (7640891576956012809 ^^^ l.length < 18446744073709551616) := Lib.hid (Nat.xor_lt_two_pow (n := 64) (by decide) (by omega))
  have HD := Lib.hid (show dig l = hexs 16 (takeAll (7640891576956012809 ^^^ l.length) l) [] from rfl)
  have HU := Lib.hid (take_lt l.length (7640891576956012809 ^^^ l.length) l (Nat.le_refl _))
  generalize dig l = R at *
  generalize 7640891576956012809 ^^^ l.length = s0 at *
  have H0 := Lib.hid (Dig.start HS0.out l)
  go_enter Tryz.func101, Tryz.ntmps101
  go_wp2_with fail
  go_loop [3, 4] (fun st f => ∃ (k s : Nat), 8 * k ≤ l.length + 8 ∧ st = .int .u64 s ∧ f = .int .i64 ((8 * k : Nat) : Int) ∧ Hid (Dig s0 l k s)) (fun _ f => (l.length + 16) - (intOf f).toNat)
  case atStart => exact ⟨0, s0, by omega, by go_num, rfl, H0⟩
  case round =>
    obtain ⟨k, s, hk, rfl, rfl, M⟩ := hrel
    by_cases hlt : 8 * k ≤ l.length
    · have i0 : (0 : Int) ≤ ((8 * k : Nat) : Int) := Int.natCast_nonneg _
      have i1 : ((8 * k : Nat) : Int) ≤ (l.length : Int) := by omega
      have HST := Lib.hid (M.out.step hlt)
      rw [eight_blk, blk_pre] at HST
      have HSL := Lib.hid M.out.1
      have HPN := Lib.hid (pre_next (8 * k) l)
      have HPL := Lib.hid (pre_lt (l.drop (8 * k)) 8)
      generalize hK : 8 * k = K at *
      have HK := Lib.hid hK
      clear hK
      go_wp2_with fail
      go_loop [5, 6] (fun b i => ∃ j : Nat, j ≤ 8 ∧ b = .int .u64 (pre j (l.drop K)) ∧ i = .int .i64 ((K + j : Nat) : Int)) (fun _ i => (K + 8) - (intOf i).toNat)
      case atStart => exact ⟨0, by omega, rfl, rfl⟩
      case round =>
        obtain ⟨j, hj, rfl, rfl⟩ := hrel
        have j0 : (0 : Int) ≤ ((K + j : Nat) : Int) := Int.natCast_nonneg _
        by_cases h8 : j < 8
        · have j1 : ((K + j : Nat) : Int) < (K : Int) + 8 := by omega
          obtain ⟨q2, q3⟩ := HPN.out j h8
          by_cases hin : K + j < l.length
          · have j2 : ((K + j : Nat) : Int) < (l.length : Int) := by omega
            have q4 := Lib.hid (q2 hin)
            clear q2 q3
            go_wp2_with fail
            go_round
            case rel => exact ⟨j + 1, by omega, by rw [q4.out], by go_num⟩
            case measure => simp [intOf]; omega
          · have j2 : (l.length : Int) ≤ ((K + j : Nat) : Int) := by omega
            have q4 := Lib.hid (q3 (by omega))
            clear q2 q3
            go_wp2_with fail
            go_round
            case rel => exact ⟨j + 1, by omega, by rw [q4.out], by go_num⟩
            case measure => simp [intOf]; omega
        · obtain rfl : j = 8 := by omega
          have hP := HPL.out
          generalize pre 8 (l.drop K) = P at *
          have hxx := bits_xor_u64_nat s P HSL.out (by simpa using hP)
          have HXL : Hid (s ^^^ P < 18446744073709551616) := Lib.hid (Nat.xor_lt_two_pow (n := 64) (by simpa using HSL.out) (by simpa using hP))
          clear hP HPN HPL
          go_wp2_with fail
          refine (rmix_any w (s ^^^ P) HXL.out).mono ?_
          rintro e w1 ⟨rfl, rfl⟩
          go_wp2_with fail
          go_round
          case rel => exact ⟨k + 1, mixN (s ^^^ P), by have := HK.out; omega, rfl, by have := HK.out; go_num, HST⟩
          case measure => simp [intOf]; omega
    · have i1 : (l.length : Int) < ((8 * k : Nat) : Int) := by omega
      have HE := Lib.hid (M.out.done (by omega))
      have HSL := Lib.hid M.out.1
      rw [← HE.out] at HD
      clear HE HU
      generalize 8 * k = K at *
      go_wp2_with fail
      go_loop [3, 7, 8] (fun st tv i => ∃ (j x : Nat) (t : List UInt8), j ≤ 16 ∧ t.length = j ∧ x < 18446744073709551616 ∧ st = .int .u64 x ∧ tv = .string ⟨t.toArray⟩ ∧ i = .int .i64 j ∧ Hid (R = hexs (16 - j) x t)) (fun _ _ i => 16 - (intOf i).toNat)
      case atStart => exact ⟨0, s, [], by omega, rfl, HSL.out, rfl, rfl, rfl, HD⟩
      case round =>
        clear HD HSL
        obtain ⟨j, x, t, hj, ht, hxl, rfl, rfl, rfl, HR⟩ := hrel
        have j0 : (0 : Int) ≤ (j : Int) := Int.natCast_nonneg _
        by_cases h16 : j < 16
        · have j1 : (j : Int) < 16 := by omega
          have hr : x % 16 < 16 := Nat.mod_lt _ (by decide)
          have HN : Hid (R = hexs (16 - (j + 1)) (x / 16) (hd (x % 16) :: t)) := Lib.hid (by
            have e := HR.out
            rw [show 16 - j = (16 - (j + 1)) + 1 by omega] at e
            exact e)
          have htl : t.length ≤ 16 := by omega
          go_wp2_with fail
          go_round
          case rel => exact ⟨j + 1, x / 16, hd (x % 16) :: t, by omega, by simp [ht], by omega, by go_num, by rw [hex_app _ hr], by go_num, HN⟩
          case measure => simp [intOf]; omega
        · obtain rfl : j = 16 := by omega
          go_wp2_with fail
          go_ret
          exact ⟨by rw [HR.out]; rfl, rfl⟩
set_option maxHeartbeats 4000000 in
set_option maxRecDepth 100000 in
theorem rdigits_any (w : World) (n W : Nat) (hW : W ≤ 8) (hn : n < 10 ^ W) (hW1 : 1 ≤ W) :
    Calls Tryz.prog 82 #[.int .i64 n, .int .i64 W] w fun e w' => e = .returned (.string ⟨(decs W n []).toArray⟩) ∧ w = w' := by
  have hn8 : n < 100000000 := Nat.lt_of_lt_of_le hn (Nat.le_trans (Nat.pow_le_pow_right (by decide) hW) (by decide))
  obtain ⟨hdl, hde⟩ := pad_dec (W - 1) n (by rw [show W - 1 + 1 = W by omega]; exact hn)
  rw [show W - 1 + 1 = W by omega] at hdl hde
  have HD := Lib.hid (rDec_any n w (by omega))
  have HE := Lib.hid hde
  clear hde hn
  generalize Lib.decDigits n = D at *
  generalize decs W n [] = R at *
  have hW0 : (0 : Int) ≤ (W : Int) := Int.natCast_nonneg _
  go_enter Tryz.func82, Tryz.ntmps82
  go_wp2_with fail
  refine HD.out.mono ?_
  rintro e w' ⟨rfl, rfl⟩
  clear HD
  go_wp2_with fail
  go_loop [5] (fun s => ∃ m : Nat, m + D.length ≤ W ∧ s = .string ⟨(List.replicate m 48 ++ D).toArray⟩) (fun s => W - strLen s)
  case atStart => exact ⟨0, by omega, rfl⟩
  case round =>
    obtain ⟨m, hm, rfl⟩ := hrel
    have hz : (⟨(List.replicate m 48 ++ D).toArray⟩ : ByteArray).size = m + D.length := by simp [ByteArray.size]
    have hstep : (⟨#[48]⟩ : ByteArray) ++ ⟨(List.replicate m 48 ++ D).toArray⟩ = ⟨(List.replicate (m + 1) 48 ++ D).toArray⟩ := by
      apply ByteArray.ext; simp [List.replicate_succ]
    have hz2 : (⟨(List.replicate (m + 1) 48 ++ D).toArray⟩ : ByteArray).size = m + 1 + D.length := by simp [ByteArray.size]
    have HEQ : Hid (m + D.length = W → List.replicate m 48 ++ D = R) := Lib.hid fun e => by rw [← HE.out, show W - D.length = m by omega]
    generalize List.replicate m 48 ++ D = T at *
    generalize hL : m + D.length = L at *
    have HLL := Lib.hid hL
    clear hL
    have hL0 : (0 : Int) ≤ (L : Int) := Int.natCast_nonneg _
    by_cases hlt : L < W
    · have hlti : (L : Int) < (W : Int) := by omega
      go_wp2_with fail
      go_round
      case rel => exact ⟨m + 1, by have := HLL.out; omega, by first | rfl | rw [hstep]⟩
      case measure =>
        show W - strLen _ < W - strLen _
        first | rw [hstep] | skip
        show W - (⟨(List.replicate (m + 1) 48 ++ D).toArray⟩ : ByteArray).size < W - (⟨T.toArray⟩ : ByteArray).size
        rw [hz, hz2]
        have := HLL.out
        omega
    · have HF := Lib.hid (HEQ.out (by omega))
      clear HEQ
      obtain rfl : L = W := by omega
      go_wp2_with fail
      go_ret
      exact ⟨by rw [HF.out]; rfl, rfl⟩
set_option maxHeartbeats 4000000 in
set_option maxRecDepth 100000 in
theorem rzeros_any (w : World) (n : Nat) (h2 : n ≤ 100000) :
    Calls Tryz.prog 83 #[.int .i64 n] w fun e w' => e = .returned (.string ⟨(List.replicate n (0 : UInt8)).toArray⟩) ∧ Below w.heap.size w w' := by
  obtain ⟨i5, hi5, ha5, hb5, hc5⟩ := info_parts info5
  have g1 : (0 : Int) ≤ (n : Int) := Int.natCast_nonneg _
  have HC := Lib.hid hc5
  go_enter Tryz.func83, Tryz.ntmps83
  go_wp2_with (at_make; refine wpList_make_full _ rfl _ _ 56 rfl 0 5 i5 _ 1 Tryz.underlying56 hi5 ha5 hb5 .i64 .i64 _ _ n rfl rfl (by omega) (by omega) (by rw [HC.out]; omega) (by unfold maxLen; omega) (by omega) ?_; intro w1 ho1 hg1)
  have HB : Hid (Below w.heap.size w w1) := Lib.hid ⟨hg1.os, hg1.tape, hg1.output, hg1.size, fun k hk => hg1.block k hk (by simp)⟩
  have e1 : (madeCells (Value.int IntKind.u8 0).cells (n * 1)).toList = Lib.byteCells (List.replicate n (0 : UInt8)) := by
    show (madeCells #[Value.int IntKind.u8 0] (n * 1)).toList = _
    rw [toList_madeCells_one, Nat.mul_one]
    simp [Lib.byteCells]
  rw [e1] at ho1
  have kc := bytes_row ho1
  clear e1 ho1 hg1
  rw [kc]
  simp only [Result.andThen, Oper.upon]
  go_wp2_with fail
  go_ret
  exact ⟨rfl, HB.out⟩
set_option maxHeartbeats 1000000 in
theorem rzero_any (w : World) : Calls Tryz.prog 59 #[] w fun e w' => e = .returned (.string ⟨zeroT.toArray⟩) ∧ Below w.heap.size w w' := by
  have HZ := Lib.hid (rzeros_any w 64 (by omega))
  rw [show List.replicate 64 (0 : UInt8) = zeroT from rfl] at HZ
  generalize zeroT = z at *
  go_enter Tryz.func59, Tryz.ntmps59
  go_wp2_with fail
  refine HZ.out.mono ?_
  rintro e w1 ⟨rfl, hb⟩
  have HB := Lib.hid hb
  clear hb HZ
  go_wp2_with fail
  go_ret
  exact ⟨rfl, HB.out⟩
set_option maxHeartbeats 2000000 in
theorem rseal_any (w : World) (p : Nat) (c : List UInt8) (hp : p < 10 ^ 8) (hc : c.length ≤ 48) :
    Calls Tryz.prog 81 #[.int .i64 p, .string ⟨c.toArray⟩] w fun e w' => e = .returned (.string ⟨(sealT (decs 8 p []) c).toArray⟩) ∧ w = w' := by
  have HP := Lib.hid (rdigits_any w p 8 (by omega) hp (by omega))
  have hd8 : (decs 8 p []).length = 8 := by rw [decs_len]; rfl
  have HS := Lib.hid (show sealT (decs 8 p []) c = dig (decs 8 p [] ++ c) ++ c from rfl)
  clear hp
  generalize sealT (decs 8 p []) c = R at *
  generalize decs 8 p [] = D at *
  have hz1 : (⟨D.toArray⟩ : ByteArray).size = 8 := by simp [ByteArray.size, hd8]
  have hz2 : (⟨c.toArray⟩ : ByteArray).size = c.length := by simp [ByteArray.size]
  have HSM := Lib.hid (rsum_any w (D ++ c) (by rw [List.length_append]; omega))
  have hdl := dig_len (D ++ c)
  rw [str_app] at HSM
  generalize dig (D ++ c) = G at *
  have hz3 : (⟨G.toArray⟩ : ByteArray).size = 16 := by simp [ByteArray.size, hdl]
  go_enter Tryz.func81, Tryz.ntmps81
  go_wp2_with fail
  refine HP.out.mono ?_
  rintro e w1 ⟨rfl, rfl⟩
  clear HP
  go_wp2_with fail
  refine HSM.out.mono ?_
  rintro e w1 ⟨rfl, rfl⟩
  clear HSM
  go_wp2_with fail
  go_ret
  exact ⟨by rw [HS.out, str_app]; rfl, rfl⟩
set_option maxHeartbeats 2000000 in
theorem rhead_any (w : World) (p n : Nat) (hp : p < 10 ^ 8) (hn : n < 10 ^ 8) :
    Calls Tryz.prog 58 #[.int .i64 p, .int .i64 n] w fun e w' => e = .returned (.string ⟨(headP p n).toArray⟩) ∧ Below w.heap.size w w' := by
  have HD := Lib.hid (rdigits_any w n 8 (by omega) hn (by omega))
  have HZ := Lib.hid (rzeros_any w 40 (by omega))
  have HS := Lib.hid (fun W => rseal_any W p (decs 8 n [] ++ List.replicate 40 0) hp (by rw [List.length_append, decs_len]; simp))
  rw [← head_eq] at HS
  have hd8 : (decs 8 n []).length = 8 := by rw [decs_len]; rfl
  clear hp hn
  generalize headP p n = R at *
  rw [str_app] at HS
  generalize decs 8 n [] = D at *
  have hz1 : (⟨D.toArray⟩ : ByteArray).size = 8 := by simp [ByteArray.size, hd8]
  have hz2 : (⟨(List.replicate 40 (0 : UInt8)).toArray⟩ : ByteArray).size = 40 := by simp [ByteArray.size]
  generalize (⟨(List.replicate 40 (0 : UInt8)).toArray⟩ : ByteArray) = Z at *
  go_enter Tryz.func58, Tryz.ntmps58
  go_wp2_with fail
  refine HD.out.mono ?_
  rintro e w1 ⟨rfl, rfl⟩
  clear HD
  go_wp2_with fail
  refine HZ.out.mono ?_
  rintro e w1 ⟨rfl, hb⟩
  have HB := Lib.hid hb
  clear HZ hb
  go_wp2_with fail
  refine (HS.out w1).mono ?_
  rintro e w2 ⟨rfl, rfl⟩
  clear HS
  go_wp2_with fail
  go_ret
  exact ⟨rfl, HB.out⟩
set_option maxHeartbeats 2000000 in
theorem rsector_any (w : World) (p : Nat) (t : List UInt8) (hp : p < 10 ^ 8) (ht : t.length ≤ 46) :
    Calls Tryz.prog 66 #[.int .i64 p, .string ⟨t.toArray⟩] w fun e w' => e = .returned (.string ⟨(sectP p t).toArray⟩) ∧ Below w.heap.size w w' := by
  have HD := Lib.hid (rdigits_any w t.length 2 (by omega) (by omega) (by omega))
  have HZ := Lib.hid (rzeros_any w (46 - t.length) (by omega))
  have hd2 : (decs 2 t.length []).length = 2 := by rw [decs_len]; rfl
  have e1 : sectP p t = sealT (decs 8 p []) ((decs 2 t.length [] ++ t) ++ List.replicate (46 - t.length) 0) := by
    unfold sectP sealP fillT
    rw [List.length_append, hd2, show 48 - (2 + t.length) = 46 - t.length by omega]
  have HS := Lib.hid (fun W => rseal_any W p ((decs 2 t.length [] ++ t) ++ List.replicate (46 - t.length) 0) hp (by rw [List.length_append, List.length_append, hd2]; simp; omega))
  rw [← e1] at HS
  clear e1 hp
  generalize sectP p t = R at *
  rw [str_app, str_app] at HS
  generalize decs 2 t.length [] = D at *
  have hz1 : (⟨D.toArray⟩ : ByteArray).size = 2 := by simp [ByteArray.size, hd2]
  have hzt : (⟨t.toArray⟩ : ByteArray).size = t.length := by simp [ByteArray.size]
  have hz2 : (⟨(List.replicate (46 - t.length) (0 : UInt8)).toArray⟩ : ByteArray).size = 46 - t.length := by simp [ByteArray.size]
  generalize (⟨(List.replicate (46 - t.length) (0 : UInt8)).toArray⟩ : ByteArray) = Z at *
  have h46 : (46 : Int) - (t.length : Int) = ((46 - t.length : Nat) : Int) := by omega
  have h46w : IntKind.i64.wrap ((46 : Int) - (t.length : Int)) = ((46 - t.length : Nat) : Int) := by rw [h46]; exact IntWalk.i64_in _ (by omega)
  generalize 46 - t.length = q at *
  have hq : q ≤ 46 := by omega
  go_enter Tryz.func66, Tryz.ntmps66
  go_wp2_with fail
  refine HD.out.mono ?_
  rintro e w1 ⟨rfl, rfl⟩
  clear HD
  go_wp2_with fail
  first | rw [h46w] | rw [h46] | skip
  refine HZ.out.mono ?_
  rintro e w1 ⟨rfl, hb⟩
  have HB := Lib.hid hb
  clear HZ hb
  go_wp2_with fail
  refine (HS.out w1).mono ?_
  rintro e w2 ⟨rfl, rfl⟩
  clear HS
  go_wp2_with fail
  go_ret
  exact ⟨rfl, HB.out⟩
end Go.Proofs.YtihoomlaggihlaaGreatDoor

namespace Go.Proofs.YtihoomlaggihlaaGreatDoor
open Go.RowKit

theorem numP_take (l : List UInt8) (k : Nat) (h : k < l.length) (h0 : 0 ≤ numP (l.take k) 0) : numP (l.take (k + 1)) 0 = if l[k].toNat < 48 ∨ 57 < l[k].toNat then -1 else 10 * numP (l.take k) 0 + ((l[k].toNat : Int) - 48) := by
  rw [List.take_succ_eq_append_getElem h, numP_app _ _ _ (Int.le_refl _), if_neg (by omega)]
  simp only [numP]
theorem numP_fall (l : List UInt8) (k : Nat) (h : numP (l.take k) 0 < 0) : numP l 0 = -1 := by
  conv => lhs; rw [← List.take_append_drop k l, numP_app _ _ _ (Int.le_refl _), if_pos h]
set_option maxHeartbeats 4000000 in
set_option maxRecDepth 100000 in
theorem rnumber_any (w : World) (s : ByteArray) (hs : s.size ≤ 8) :
    Calls Tryz.prog 80 #[.string s] w fun e w' => e = .returned (.int .i64 (numP s.data.toList 0)) ∧ w = w' := by
  have hsz : s.data.toList.length = s.size := by simp
  have HT := Lib.hid (show ∀ (k : Nat) (h : k < s.size), 0 ≤ numP (s.data.toList.take k) 0 → numP (s.data.toList.take (k + 1)) 0 = if (s[k]).toNat < 48 ∨ 57 < (s[k]).toNat then -1 else 10 * numP (s.data.toList.take k) 0 + (((s[k]).toNat : Int) - 48) from fun k h h0 => numP_take s.data.toList k (by rw [hsz]; exact h) h0)
  have HF := Lib.hid (fun k => numP_fall s.data.toList k)
  have HBD := Lib.hid (show ∀ k, k ≤ 8 → numP (s.data.toList.take k) 0 < 100000000 from fun k hk => by
    have b := (numP_bd (s.data.toList.take k) 0 (Int.le_refl _)).2
    have h1 : (s.data.toList.take k).length ≤ 8 := by rw [List.length_take]; omega
    have h2 : 10 ^ (s.data.toList.take k).length ≤ 10 ^ 8 := Nat.pow_le_pow_right (by decide) h1
    have h3 : ((10 ^ (s.data.toList.take k).length : Nat) : Int) = (10 : Int) ^ (s.data.toList.take k).length := by simp
    rw [← h3] at b
    omega)
  have HTK := Lib.hid (show s.data.toList.take s.size = s.data.toList by rw [← hsz, List.take_length])
  clear hsz
  generalize s.data.toList = l at *
  generalize hR : numP l 0 = R at *
  have HR := Lib.hid hR
  clear hR
  go_enter Tryz.func80, Tryz.ntmps80
  go_wp2_with fail
  go_loop [3, 4] (fun nv iv => ∃ (k : Nat) (n : Int), k ≤ s.size ∧ 0 ≤ n ∧ n < 100000000 ∧ nv = .int .i64 n ∧ iv = .int .i64 k ∧ Hid (numP (l.take k) 0 = n)) (fun _ i => s.size - (intOf i).toNat)
  case atStart => exact ⟨0, 0, Nat.zero_le _, by omega, by omega, rfl, rfl, Lib.hid rfl⟩
  case round =>
    obtain ⟨k, n, hk, hn0, hn1, rfl, rfl, HN⟩ := hrel
    by_cases hlt : k < s.size
    · have HS := Lib.hid (HT.out k hlt (by rw [HN.out]; exact hn0))
      have hc := (s[k]).toNat_lt
      have hb := HBD.out (k + 1) (by omega)
      by_cases c1 : (s[k]).toNat < 48
      · rw [if_pos (Or.inl c1)] at HS
        have HZ := Lib.hid (HF.out (k + 1) (by rw [HS.out]; decide))
        clear HS hb
        go_wp2_with fail
        go_ret
        exact ⟨by rw [HZ.out]; rfl, rfl⟩
      by_cases c2 : 57 < (s[k]).toNat
      · rw [if_pos (Or.inr c2)] at HS
        have HZ := Lib.hid (HF.out (k + 1) (by rw [HS.out]; decide))
        clear HS hb
        go_wp2_with fail
        go_ret
        exact ⟨by rw [HZ.out]; rfl, rfl⟩
      · rw [if_neg (by omega)] at HS
        rw [HS.out, HN.out] at hb
        rw [HN.out] at HS
        go_wp2_with fail
        go_round
        case rel => exact ⟨k + 1, 10 * n + (((s[k]).toNat : Int) - 48), by omega, by omega, hb, by go_num, by go_num, HS⟩
        case measure => simp [intOf]; omega
    · obtain rfl : k = s.size := by omega
      have HE := Lib.hid (show R = n by rw [← HR.out, ← HN.out, HTK.out])
      go_wp2_with fail
      go_ret
      exact ⟨by rw [HE.out]; rfl, rfl⟩
theorem ext_num (s : List UInt8) (a b : Nat) : ((⟨s.toArray⟩ : ByteArray).extract a b).data.toList = (s.drop a).take (b - a) := Lib.extract_data _ _ _
theorem rcount_zeroT (w : World) (p room : Nat) : Calls Tryz.prog 55 #[.int .i64 p, .string ⟨zeroT.toArray⟩, .int .i64 room] w fun e w' => e = .returned (.int .i64 0) ∧ Below w.heap.size w w' := by
  have HZ := Lib.hid (rzero_any w)
  generalize zeroT = z at *
  go_enter Tryz.func55, Tryz.ntmps55
  go_wp2_with fail
  refine HZ.out.mono ?_
  rintro e w1 ⟨rfl, hb⟩
  have HB := Lib.hid hb
  clear hb HZ
  go_wp2_with fail
  go_ret
  exact ⟨rfl, HB.out⟩
set_option maxHeartbeats 4000000 in
set_option maxRecDepth 100000 in
theorem rcount_ne (w : World) (p room : Nat) (s : List UInt8) (hs : s.length = 64) (hz : s ≠ zeroT) (hp : p < 10 ^ 8) (hr : room < 10 ^ 8) :
    Calls Tryz.prog 55 #[.int .i64 p, .string ⟨s.toArray⟩, .int .i64 room] w fun e w' => e = .returned (.int .i64 (cnt p s room)) ∧ Below w.heap.size w w' := by
  have HZ := Lib.hid (rzero_any w)
  have hsz : (⟨s.toArray⟩ : ByteArray).size = 64 := by simp [ByteArray.size, hs]
  have hne : (s == zeroT) = false := by simpa using hz
  have hez : ((⟨s.toArray⟩ : ByteArray).extract 16 24).size = 8 := by simp [ByteArray.size]; omega
  have HNM := Lib.hid (fun W => rnumber_any W ((⟨s.toArray⟩ : ByteArray).extract 16 24) (by omega))
  rw [ext_num] at HNM
  have HNO := Lib.hid (cnt_num_no (p := p) hr hz)
  have HYE := Lib.hid (cnt_num_yes (p := p) (s := s) hr)
  have HHD := Lib.hid (fun W n hn => rhead_any W p n hp hn)
  have HBD : Hid (numP ((s.drop 16).take (24 - 16)) 0 < 100000000) := Lib.hid (by
    have b := (numP_bd ((s.drop 16).take 8) 0 (Int.le_refl _)).2
    have h1 : ((s.drop 16).take 8).length ≤ 8 := by rw [List.length_take]; omega
    have h2 : 10 ^ ((s.drop 16).take 8).length ≤ 10 ^ 8 := Nat.pow_le_pow_right (by decide) h1
    have h3 : ((10 ^ ((s.drop 16).take 8).length : Nat) : Int) = (10 : Int) ^ ((s.drop 16).take 8).length := by simp
    rw [← h3] at b
    simp only [Nat.reduceSub]
    omega)
  simp only [Nat.reduceSub] at HNM HBD
  clear hs hz hp hr
  generalize zeroT = z at *
  generalize cnt p s room = R at *
  generalize numP ((s.drop 16).take 8) 0 = v at *
  by_cases v0 : v < 0
  · have HR := Lib.hid (HNO.out (Or.inl v0))
    go_enter Tryz.func55, Tryz.ntmps55
    go_wp2_with fail
    refine HZ.out.mono ?_
    rintro e w1 ⟨rfl, hb⟩
    have HB := Lib.hid hb
    clear hb HZ
    go_wp2_with fail
    refine (HNM.out w1).mono ?_
    rintro e w2 ⟨rfl, rfl⟩
    go_wp2_with fail
    go_ret
    exact ⟨by rw [HR.out]; rfl, HB.out⟩
  by_cases v1 : (room : Int) < v
  · have HR := Lib.hid (HNO.out (Or.inr (Or.inl v1)))
    go_enter Tryz.func55, Tryz.ntmps55
    go_wp2_with fail
    refine HZ.out.mono ?_
    rintro e w1 ⟨rfl, hb⟩
    have HB := Lib.hid hb
    clear hb HZ
    go_wp2_with fail
    refine (HNM.out w1).mono ?_
    rintro e w2 ⟨rfl, rfl⟩
    go_wp2_with fail
    go_ret
    exact ⟨by rw [HR.out]; rfl, HB.out⟩
  obtain ⟨n, rfl⟩ : ∃ n : Nat, v = n := ⟨v.toNat, by omega⟩
  have n0 : (0 : Int) ≤ (n : Int) := Int.natCast_nonneg _
  have n1 : (n : Int) ≤ (room : Int) := by omega
  have HN8 := Lib.hid (show n < 10 ^ 8 by have := HBD.out; omega)
  have HH := Lib.hid (fun W => HHD.out W n HN8.out)
  rw [Int.toNat_natCast] at HNO HYE
  clear HHD v0 v1
  by_cases hh : headP p n = s
  · have HR := Lib.hid (HYE.out n0 n1 hh)
    have hb2 : (headP p n == s) = true := by simpa using hh
    clear hh HNO HYE
    generalize headP p n = h at *
    go_enter Tryz.func55, Tryz.ntmps55
    go_wp2_with fail
    refine HZ.out.mono ?_
    rintro e w1 ⟨rfl, hb⟩
    have HB := Lib.hid hb
    clear hb HZ
    go_wp2_with fail
    refine (HNM.out w1).mono ?_
    rintro e w2 ⟨rfl, rfl⟩
    clear hez hne HNM HBD
    go_wp2_with fail
    refine (HH.out w1).mono ?_
    rintro e w3 ⟨rfl, hb⟩
    have HB3 := Lib.hid (HB.out.trans (hb.mono HB.out.size))
    clear hb
    go_wp2_with fail
    go_ret
    exact ⟨by rw [HR.out]; rfl, HB3.out⟩
  · have HR := Lib.hid (HNO.out (Or.inr (Or.inr hh)))
    have hb2 : (headP p n == s) = false := by simpa using hh
    clear hh HNO HYE
    generalize headP p n = h at *
    go_enter Tryz.func55, Tryz.ntmps55
    go_wp2_with fail
    refine HZ.out.mono ?_
    rintro e w1 ⟨rfl, hb⟩
    have HB := Lib.hid hb
    clear hb HZ
    go_wp2_with fail
    refine (HNM.out w1).mono ?_
    rintro e w2 ⟨rfl, rfl⟩
    clear hez hne HNM HBD
    go_wp2_with fail
    refine (HH.out w1).mono ?_
    rintro e w3 ⟨rfl, hb⟩
    have HB3 := Lib.hid (HB.out.trans (hb.mono HB.out.size))
    clear hb
    go_wp2_with fail
    go_ret
    exact ⟨by rw [HR.out]; rfl, HB3.out⟩
theorem rcnt_any (w : World) (p room : Nat) (s : List UInt8) (hs : s.length = 64) (hp : p < 10 ^ 8) (hr : room < 10 ^ 8) :
    Calls Tryz.prog 55 #[.int .i64 p, .string ⟨s.toArray⟩, .int .i64 room] w fun e w' => e = .returned (.int .i64 (cnt p s room)) ∧ Below w.heap.size w w' := by
  by_cases hz : s = zeroT
  · subst hz
    rw [cnt_zero]
    exact rcount_zeroT w p room
  · exact rcount_ne w p room s hs hz hp hr
set_option maxHeartbeats 4000000 in
set_option maxRecDepth 100000 in
theorem rpiece_any (w : World) (p : Nat) (s : List UInt8) (hs : s.length = 64) (hp : p < 10 ^ 8) :
    Calls Tryz.prog 56 #[.int .i64 p, .string ⟨s.toArray⟩] w fun e w' => e = .returned (.string ⟨(pieceP p s).toArray⟩) ∧ Below w.heap.size w w' := by
  have hsz : (⟨s.toArray⟩ : ByteArray).size = 64 := by simp [ByteArray.size, hs]
  have hez : ((⟨s.toArray⟩ : ByteArray).extract 16 18).size = 2 := by simp [ByteArray.size]; omega
  have HNM := Lib.hid (fun W => rnumber_any W ((⟨s.toArray⟩ : ByteArray).extract 16 18) (by omega))
  rw [ext_num] at HNM
  simp only [Nat.reduceSub] at HNM
  have HPP := Lib.hid (show pieceP p s = if 1 ≤ numP ((s.drop 16).take 2) 0 ∧ numP ((s.drop 16).take 2) 0 ≤ 46 ∧ sectP p ((s.drop 18).take (numP ((s.drop 16).take 2) 0).toNat) = s then (s.drop 18).take (numP ((s.drop 16).take 2) 0).toNat else [] from rfl)
  have HSC := Lib.hid (fun W n (hn : n ≤ 46) => rsector_any W p ((s.drop 18).take n) hp (by rw [List.length_take]; omega))
  clear hs hp
  generalize pieceP p s = R at *
  generalize numP ((s.drop 16).take 2) 0 = v at *
  by_cases v0 : v < 1
  · rw [if_neg (by omega)] at HPP
    go_enter Tryz.func56, Tryz.ntmps56
    go_wp2_with fail
    refine (HNM.out w).mono ?_
    rintro e w2 ⟨rfl, rfl⟩
    go_wp2_with fail
    go_ret
    exact ⟨by rw [HPP.out]; rfl, Below.refl _ _⟩
  by_cases v1 : 46 < v
  · rw [if_neg (by omega)] at HPP
    go_enter Tryz.func56, Tryz.ntmps56
    go_wp2_with fail
    refine (HNM.out w).mono ?_
    rintro e w2 ⟨rfl, rfl⟩
    go_wp2_with fail
    go_ret
    exact ⟨by rw [HPP.out]; rfl, Below.refl _ _⟩
  obtain ⟨n, rfl⟩ : ∃ n : Nat, v = n := ⟨v.toNat, by omega⟩
  rw [Int.toNat_natCast] at HPP
  have n0 : (0 : Int) ≤ (n : Int) := Int.natCast_nonneg _
  have n1 : (n : Int) ≤ 46 := by omega
  have n2 : (1 : Int) ≤ (n : Int) := by omega
  have HH := Lib.hid (fun W => HSC.out W n (by omega))
  have ex : (⟨s.toArray⟩ : ByteArray).extract 18 (18 + n) = ⟨((s.drop 18).take n).toArray⟩ := by
    rw [extract_mid, show 18 + n - 18 = n by omega]
  have ht18 : (18 + (n : Int)).toNat = 18 + n := by omega
  have ha18 : (18 : Int) ≤ 18 + (n : Int) := by omega
  have hb18 : 18 + (n : Int) ≤ 64 := by omega
  clear HSC v0 v1
  by_cases hh : sectP p ((s.drop 18).take n) = s
  · rw [if_pos ⟨n2, n1, hh⟩] at HPP
    have hb2 : (sectP p ((s.drop 18).take n) == s) = true := by simpa using hh
    clear hh
    generalize sectP p ((s.drop 18).take n) = h at *
    generalize (s.drop 18).take n = t at *
    go_enter Tryz.func56, Tryz.ntmps56
    go_wp2_with fail
    refine (HNM.out w).mono ?_
    rintro e w2 ⟨rfl, rfl⟩
    go_wp2_with fail
    refine (HH.out w).mono ?_
    rintro e w3 ⟨rfl, hb⟩
    have HB3 := Lib.hid hb
    clear hb
    go_wp2_with fail
    go_ret
    exact ⟨by rw [HPP.out]; rfl, HB3.out⟩
  · rw [if_neg (fun e => hh e.2.2)] at HPP
    have hb2 : (sectP p ((s.drop 18).take n) == s) = false := by simpa using hh
    clear hh
    generalize sectP p ((s.drop 18).take n) = h at *
    generalize (s.drop 18).take n = t at *
    go_enter Tryz.func56, Tryz.ntmps56
    go_wp2_with fail
    refine (HNM.out w).mono ?_
    rintro e w2 ⟨rfl, rfl⟩
    go_wp2_with fail
    refine (HH.out w).mono ?_
    rintro e w3 ⟨rfl, hb⟩
    have HB3 := Lib.hid hb
    clear hb
    go_wp2_with fail
    go_ret
    exact ⟨by rw [HPP.out]; rfl, HB3.out⟩
end Go.Proofs.YtihoomlaggihlaaGreatDoor

namespace Go.Proofs.YtihoomlaggihlaaGreatDoor
open Go.RowKit

theorem rDec_below (n : Nat) (w : World) (hn : n ≤ 4611686018427387904) :
    Calls Tryz.prog 78 #[.int .i64 n] w fun e w' => e = .returned (.string ⟨(Lib.decDigits n).toArray⟩) ∧ Below w.heap.size w w' := by
  refine (rDec_any n w hn).mono ?_
  rintro e w' ⟨h, rfl⟩
  exact ⟨h, Below.refl _ _⟩
theorem str_at (r : List UInt8) (k : Nat) (h : k < r.length) : ((⟨r.toArray⟩ : ByteArray)[k]'(by simpa [ByteArray.size] using h)) = r[k] := rfl
theorem no_head {r a b : List UInt8} (hr : r = a ++ 58 :: b) (ha : (58 : UInt8) ∉ a) (h : ∀ n, n ≤ 20000 → n ≤ b.length → Lib.decDigits n = a → False) : ¬ HeadOk r := by
  rw [hr]
  exact not_head1 ha (fun n h1 h2 e => h n h1 h2 e)
set_option maxHeartbeats 16000000 in
set_option maxRecDepth 100000 in
theorem rparse_any (w : World) (t : List UInt8) (ht : t.length ≤ 1000000) :
    Calls Tryz.prog 57 #[.string ⟨t.toArray⟩] w (PPost t w) := by
  have H0 : Hid (Reading t w.heap.size w (.slice none 0 0) t [] w) := Lib.hid ⟨rfl, by simp [okR], by simp, World.ownsRow_nil _ _ _ _, Below.refl _ _⟩
  go_enter Tryz.func57, Tryz.ntmps57
  go_wp2_with fail
  obtain ⟨wo, rfl⟩ : ∃ wo : World, wo = w := ⟨_, rfl⟩
  go_loopw [0, 4] (fun s v wr => ∃ r done, s = .string ⟨List.toArray r⟩ ∧ Hid (Reading t wo.heap.size wo v r done wr)) (fun s _ _ => strLen s)
  case atStart => exact ⟨t, [], rfl, H0⟩
  case round =>
    clear H0
    obtain ⟨r, done, rfl, M⟩ := hrel
    have hsz : (⟨r.toArray⟩ : ByteArray).size = r.length := by simp [ByteArray.size]
    by_cases hr : r = []
    · subst hr
      go_wp2_with fail
      go_ret2
      have e := M.out.1
      rw [List.append_nil] at e
      exact Or.inl ⟨_, done, rfl, e.symm, M.out.2.1, M.out.2.2.2.1, M.out.2.2.2.2⟩
    · have hrl : 0 < r.length := List.length_pos_iff.2 hr
      have hrli : (0 : Int) < (r.length : Int) := by omega
      have hz : wo.heap.size ≤ wr.heap.size := M.out.2.2.2.2.size
      have hlen : done.length + r.length ≤ 1000000 := by have := M.out.2.2.1; omega
      have HW := Lib.hid M.out.2.2.2.2
      have HNT := Lib.hid (fun h => M.out.1 ▸ not_text (done := done) hr h)
      have HI := Lib.hid (fun k (hk : k < r.length) => str_at r k hk)
      clear hr
      go_wp2_with fail
      go_loop [5] (fun i => ∃ k : Nat, k ≤ 5 ∧ k ≤ r.length ∧ i = .int .i64 k ∧ Hid (∀ j, j < k → r[j]? ≠ some 58)) (fun i => 6 - (intOf i).toNat)
      case atStart => exact ⟨0, by omega, by omega, rfl, Lib.hid fun j h => absurd h (Nat.not_lt_zero _)⟩
      case round =>
        obtain ⟨k, hk5, hkl, rfl, HK⟩ := hrel
        have hk0 : (0 : Int) ≤ (k : Int) := Int.natCast_nonneg _
        by_cases hin : k < r.length
        · have hini : (k : Int) < (r.length : Int) := by omega
          have hidx := HI.out k hin
          have HG := Lib.hid (List.getElem?_eq_getElem hin)
          by_cases hc : r[k] = 58
          · rw [hc] at HG hidx
            have hb0 : ((((⟨r.toArray⟩ : ByteArray)[k]'(by rw [hsz]; exact hin)).toNat : Int) == 58) = true := by rw [hidx]; rfl
            have hb1 : (((⟨r.toArray⟩ : ByteArray)[k]'(by rw [hsz]; exact hin)).toNat : Int) = 58 := by rw [hidx]; rfl
            clear hc hidx
            have HAT := Lib.hid (at_colon HG.out)
            have HNC := Lib.hid (no_colon HK.out)
            have HAL := Lib.hid (show (r.take k).length = k by rw [List.length_take]; omega)
            have ex1 := extract_take r k
            have HNM := Lib.hid (fun W => rnumber_any W ⟨(r.take k).toArray⟩ (by simp [ByteArray.size]; omega))
            have HBL := Lib.hid (show (r.drop (k + 1)).length = r.length - (k + 1) by rw [List.length_drop])
            have HBD : Hid (numP (r.take k) 0 < 100000) := Lib.hid (by
              have b := (numP_bd (r.take k) 0 (Int.le_refl _)).2
              have h1 : (r.take k).length ≤ 5 := by rw [List.length_take]; omega
              have h2 : 10 ^ (r.take k).length ≤ 10 ^ 5 := Nat.pow_le_pow_right (by decide) h1
              have h3 : ((10 ^ (r.take k).length : Nat) : Int) = (10 : Int) ^ (r.take k).length := by simp
              rw [← h3] at b
              omega)
            have HDN : Hid (∀ m, Lib.decDigits m = r.take k → numP (r.take k) 0 = (m : Int)) := Lib.hid fun m e => by rw [← e]; exact numP_dec m
            have HNH := Lib.hid (fun h => HNT.out (no_head HAT.out HNC.out h))
            have HSTEP := Lib.hid (fun n w1 v' w' hda hn hnb => Reading.step (n := n) (w1 := w1) (v' := v') (w' := w') (HAT.out ▸ M.out : Reading t wo.heap.size wo u4 (r.take k ++ 58 :: r.drop (k + 1)) done wr) hda hn hnb hz)
            have HSL : Hid (∀ n, (⟨r.toArray⟩ : ByteArray).extract (k + 1) (k + 1 + n) = ⟨((r.drop (k + 1)).take n).toArray⟩) := Lib.hid fun n => by
              rw [extract_mid, show k + 1 + n - (k + 1) = n by omega]
            have HSD : Hid (∀ n, (⟨r.toArray⟩ : ByteArray).extract (k + 1 + n) r.length = ⟨((r.drop (k + 1)).drop n).toArray⟩) := Lib.hid fun n => by
              rw [extract_drop, List.drop_drop]
            have HDL : Hid (∀ n, ((r.drop (k + 1)).drop n).length < r.length) := Lib.hid fun n => by rw [List.length_drop, List.length_drop]; omega
            have hsa : (⟨(r.take k).toArray⟩ : ByteArray).size = k := by simp only [ByteArray.size, List.size_toArray]; exact HAL.out
            have hda : (⟨(r.take k).toArray⟩ : ByteArray).data.toList = r.take k := by simp
            have HNM2 : Hid (∀ W, Calls Tryz.prog 80 #[.string ⟨(r.take k).toArray⟩] W fun e w' => e = .returned (.int .i64 (numP (r.take k) 0)) ∧ W = w') := Lib.hid fun W => by
              have := HNM.out W
              rwa [hda] at this
            clear HNM hda HAT HNC
            generalize r.take k = a at *
            generalize r.drop (k + 1) = b at *
            generalize numP a 0 = v at *
            have hmix : Tryz.prog.follows Departure.mixedOrders = true := by decide
            have hki : (k : Int) ≤ (r.length : Int) := by omega
            have hk5i : (k : Int) ≤ 5 := by omega
            rcases (show k < 5 ∨ k = 5 by omega) with h5 | h5
            all_goals (
              try (have h5i : (k : Int) < 5 := by omega)
              try (have h5j : ¬ (k : Int) < 5 := by omega)
              clear h5
              go_wp2_with fail
              refine (HNM2.out _).mono ?_
              rintro e w2 ⟨rfl, rfl⟩
              by_cases v0 : v < 0
              · have HNO := Lib.hid (HNH.out (fun n h1 h2 e => by have := HDN.out n e; omega))
                have HDB := Lib.hid (fun W => rDec_below 0 W (by omega))
                go_wp2_with fail
                refine wp_region_quiet_below (by assumption) (by kernel_rfl) ?_
                repeat (first | go_big_quiet_skip | quiet_step ((go_at_call 78; exact Calls.regrown_of (HDB.out _))))
                refine wpQuiet_nil ?_
                intro w9 hw9
                obtain ⟨pp, rfl⟩ := hw9
                have B9 := Lib.hid (below_regrown wr pp.d pp.os)
                generalize Sort.grow (redrawn wr pp.d) pp.os = w9 at *
                go_wp2_with fail
                go_ret2
                exact Or.inr ⟨rfl, fun ⟨x, h1, h2⟩ => HNO.out ⟨x, h1, h2⟩, HW.out.trans (B9.out.mono hz)⟩
              by_cases v1 : 20000 < v
              · have HNO := Lib.hid (HNH.out (fun n h1 h2 e => by have := HDN.out n e; omega))
                have HDB := Lib.hid (fun W => rDec_below 0 W (by omega))
                go_wp2_with fail
                refine wp_region_quiet_below (by assumption) (by kernel_rfl) ?_
                repeat (first | go_big_quiet_skip | quiet_step ((go_at_call 78; exact Calls.regrown_of (HDB.out _))))
                refine wpQuiet_nil ?_
                intro w9 hw9
                obtain ⟨pp, rfl⟩ := hw9
                have B9 := Lib.hid (below_regrown wr pp.d pp.os)
                generalize Sort.grow (redrawn wr pp.d) pp.os = w9 at *
                go_wp2_with fail
                go_ret2
                exact Or.inr ⟨rfl, fun ⟨x, h1, h2⟩ => HNO.out ⟨x, h1, h2⟩, HW.out.trans (B9.out.mono hz)⟩
              obtain ⟨n, rfl⟩ : ∃ n : Nat, v = n := ⟨v.toNat, by omega⟩
              have n0 : (0 : Int) ≤ (n : Int) := Int.natCast_nonneg _
              have n1 : (n : Int) ≤ 20000 := by omega
              have d0 : decide ((n : Int) < 0) = false := by simp
              have d1 : decide ((20000 : Int) < (n : Int)) = false := by rw [decide_eq_false_iff_not]; omega
              have hn : n ≤ 20000 := by omega
              have HDB := Lib.hid (fun W => rDec_below n W (by omega))
              clear v0 v1
              by_cases hda : Lib.decDigits n = a
              · have hq : (Lib.decDigits n == a) = true := by simpa using hda
                have k1 : ((k : Int) + 1).toNat = k + 1 := by omega
                have k2 : ((k : Int) + 1 + (n : Int)).toNat = k + 1 + n := by omega
                have k3 : (0 : Int) ≤ (k : Int) + 1 := by omega
                have k4 : (k : Int) + 1 ≤ (k : Int) + 1 + (n : Int) := by omega
                have k6 : (0 : Int) ≤ (k : Int) + 1 + (n : Int) := by omega
                have k7 : IntKind.i64.wrap ((k : Int) + 1) = (k : Int) + 1 := IntWalk.i64_in _ (by omega)
                have k8 : IntKind.i64.wrap ((k : Int) + 1 + (n : Int)) = (k : Int) + 1 + (n : Int) := IntWalk.i64_in _ (by omega)
                by_cases hnb : n ≤ b.length
                · have hnb2 : (k : Int) + 1 + (n : Int) ≤ (r.length : Int) := by have := HBL.out; omega
                  have HSP := Lib.hid (fun w1 v' w' => HSTEP.out n w1 v' w' hda hn hnb)
                  have ex2 := HSL.out n
                  have ex3 := HSD.out n
                  have HDX := Lib.hid (HDL.out n)
                  clear hda HSTEP HSL HSD HDL HNH HDN HBD HNM2
                  generalize Lib.decDigits n = D at *
                  go_wp2_with fail
                  refine wp_region_quiet_below (by assumption) (by kernel_rfl) ?_
                  repeat (first | go_big_quiet_skip | quiet_step ((go_at_call 78; exact Calls.regrown_of (HDB.out _))))
                  refine wpQuiet_nil ?_
                  intro w9 hw9
                  obtain ⟨pp, rfl⟩ := hw9
                  have B9 := Lib.hid (below_regrown wr pp.d pp.os)
                  generalize Sort.grow (redrawn wr pp.d) pp.os = w9 at *
                  obtain ⟨i9, hi9, ha9, hb9, hc9⟩ := info_parts info9
                  have hz9 : wo.heap.size ≤ w9.heap.size := by have := B9.out.size; omega
                  have BA := Lib.hid (B9.out.alloc B9.out.size (.cells #[.string ⟨(b.take n).toArray⟩] 9))
                  have HO := Lib.hid (own_below M.out.2.2.2.1 BA.out)
                  have HST := Lib.hid (fun v' w' => HSP.out _ v' w' BA.out)
                  have hdl : done.length ≤ 1000000 := by omega
                  go_wp2_with (at_builtin; refine wpList_append_own _ rfl (.tmp 63) (.tmp 72) 26 rfl wo.heap.size 9 i9 _ 1 16 Tryz.underlying26 hi9 ha9 hb9 hc9 rfl (by decide) _ done.length (strs done) rfl HO.out ⟨w9.heap.size, 0, none⟩ 1 1 (strs [b.take n]) rfl rfl (news_one _ _ _) (strs_one _) (by unfold maxLen; omega) (by omega) (by simp; omega) ?_)
                  intro v' w6 ho2 hg2 _
                  have M2 := Lib.hid (HST.out v' w6 ho2 hg2)
                  clear ho2 hg2 HST HO
                  go_wp2_with fail
                  go_roundw
                  case rel => exact ⟨b.drop n, done ++ [b.take n], rfl, M2⟩
                  case measure =>
                    show (⟨(b.drop n).toArray⟩ : ByteArray).size < (⟨r.toArray⟩ : ByteArray).size
                    rw [hsz]
                    simp only [ByteArray.size, List.size_toArray]
                    exact HDX.out
                · have hnb2 : (r.length : Int) < (k : Int) + 1 + (n : Int) := by have := HBL.out; omega
                  have HNO := Lib.hid (HNH.out (fun m h1 h2 e => by have := HDN.out m e; omega))
                  clear hda HSTEP HSL HSD HDL HNH HDN HBD HNM2
                  generalize Lib.decDigits n = D at *
                  go_wp2_with fail
                  refine wp_region_quiet_below (by assumption) (by kernel_rfl) ?_
                  repeat (first | go_big_quiet_skip | quiet_step ((go_at_call 78; exact Calls.regrown_of (HDB.out _))))
                  refine wpQuiet_nil ?_
                  intro w9 hw9
                  obtain ⟨pp, rfl⟩ := hw9
                  have B9 := Lib.hid (below_regrown wr pp.d pp.os)
                  generalize Sort.grow (redrawn wr pp.d) pp.os = w9 at *
                  go_wp2_with fail
                  go_ret2
                  exact Or.inr ⟨rfl, fun ⟨x, h1, h2⟩ => HNO.out ⟨x, h1, h2⟩, HW.out.trans (B9.out.mono hz)⟩
              · have hq : (Lib.decDigits n == a) = false := by simpa using hda
                have HNO := Lib.hid (HNH.out (fun m h1 h2 e => hda (by have := HDN.out m e; rw [show n = m by omega]; exact e)))
                clear hda HSTEP HSL HSD HDL HNH HDN HBD HNM2
                generalize Lib.decDigits n = D at *
                go_wp2_with fail
                refine wp_region_quiet_below (by assumption) (by kernel_rfl) ?_
                repeat (first | go_big_quiet_skip | quiet_step ((go_at_call 78; exact Calls.regrown_of (HDB.out _))))
                refine wpQuiet_nil ?_
                intro w9 hw9
                obtain ⟨pp, rfl⟩ := hw9
                have B9 := Lib.hid (below_regrown wr pp.d pp.os)
                generalize Sort.grow (redrawn wr pp.d) pp.os = w9 at *
                go_wp2_with fail
                go_ret2
                exact Or.inr ⟨rfl, fun ⟨x, h1, h2⟩ => HNO.out ⟨x, h1, h2⟩, HW.out.trans (B9.out.mono hz)⟩)
          · have hb0 : ((((⟨r.toArray⟩ : ByteArray)[k]'(by rw [hsz]; exact hin)).toNat : Int) == 58) = false := by
              rw [beq_eq_false_iff_ne, hidx]
              intro e
              exact hc (UInt8.toNat_inj.1 (by have : (58 : UInt8).toNat = 58 := rfl; omega))
            have hb1 : ¬ ((((⟨r.toArray⟩ : ByteArray)[k]'(by rw [hsz]; exact hin)).toNat : Int) = 58) := by simpa using hb0
            have hb2 : ¬ (((⟨r.toArray⟩ : ByteArray)[k]'(by rw [hsz]; exact hin)).toNat = 58) := fun e => hb1 (by rw [e]; rfl)
            have HK2 : Hid (∀ j, j < k + 1 → r[j]? ≠ some 58) := Lib.hid fun j hj => by
              rcases Nat.lt_or_ge j k with e | e
              · exact HK.out j e
              · obtain rfl : j = k := by omega
                rw [HG.out]
                intro e
                exact hc (Option.some.inj e)
            clear hc hidx
            by_cases h5 : k < 5
            · have h5i : (k : Int) < 5 := by omega
              go_wp2_with fail
              go_round
              case rel => exact ⟨k + 1, by omega, by omega, by go_num, HK2⟩
              case measure => simp [intOf]; omega
            · obtain rfl : k = 5 := by omega
              have hini5 : (5 : Int) < (r.length : Int) := by omega
              have hini6 : decide ((r.length : Int) ≤ 5) = false := by rw [decide_eq_false_iff_not]; omega
              have hini7 : ¬ ((r.length : Int) ≤ 5) := by omega
              have HNO := Lib.hid (HNT.out (not_head_six (r := r) (fun i hi => HK2.out i (by omega))))
              go_wp2_with fail
              go_ret2
              exact Or.inr ⟨rfl, fun ⟨x, h1, h2⟩ => HNO.out ⟨x, h1, h2⟩, HW.out⟩
        · obtain rfl : k = r.length := by omega
          have HNO := Lib.hid (HNT.out (not_head0 (r := r) (fun h => by
            have e := no_colon HK.out
            rw [List.take_length] at e
            exact e h)))
          go_wp2_with fail
          go_ret2
          exact Or.inr ⟨rfl, fun ⟨x, h1, h2⟩ => HNO.out ⟨x, h1, h2⟩, HW.out⟩
end Go.Proofs.YtihoomlaggihlaaGreatDoor
