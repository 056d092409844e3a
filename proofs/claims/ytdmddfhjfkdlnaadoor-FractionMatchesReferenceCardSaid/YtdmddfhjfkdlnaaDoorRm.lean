/- The contracts of the reference's digits, Decimal, decimal, Text and number. Under no condition but the types' own ranges. -/
import Derived.Test.YtdmddfhjfkdlnaaDoorRi
import Derived.Test.YtdmddfhjfkdlnaaDoorI
namespace Go.Proofs.YtdmddfhjfkdlnaaDoor
open Go.RowKit

/-- a digit -/
def dgt (r : Nat) : UInt8 := UInt8.ofNat (48 + r)
/-- the digits of a number, none for nought -/
def pre (n : Nat) : List UInt8 := if n = 0 then [] else Lib.decDigits n
theorem dec_pre (n : Nat) : Lib.decDigits n = pre (n / 10) ++ [dgt (n % 10)] := by
  unfold pre dgt
  rw [Lib.decDigits]
  split
  · rename_i h
    rw [if_pos (by omega), Nat.mod_eq_of_lt h]; rfl
  · rename_i h
    rw [if_neg (by omega)]
theorem pre_step (n : Nat) (h : n ≠ 0) : pre n = pre (n / 10) ++ [dgt (n % 10)] := by
  rw [← dec_pre]; unfold pre; rw [if_neg h]
theorem dig_one (r : Nat) (h : r < 10) : ({ data := #[48, 49, 50, 51, 52, 53, 54, 55, 56, 57] } : ByteArray).extract r (r + 1) = ⟨#[dgt r]⟩ := by
  match r, h with
  | 0, _ => rfl | 1, _ => rfl | 2, _ => rfl | 3, _ => rfl | 4, _ => rfl | 5, _ => rfl | 6, _ => rfl | 7, _ => rfl | 8, _ => rfl | 9, _ => rfl
theorem dig_app (r : Nat) (h : r < 10) (s : List UInt8) : ({ data := #[48, 49, 50, 51, 52, 53, 54, 55, 56, 57] } : ByteArray).extract r (r + 1) ++ { data := s.toArray } = ⟨(dgt r :: s).toArray⟩ := by
  rw [dig_one r h]
  apply ByteArray.ext; simp
set_option maxHeartbeats 2000000 in
set_option maxRecDepth 100000 in
theorem rdgs_any (N : Nat) (w : World) (hN : N < 18446744073709551616) :
    Calls Tryd.prog 64 #[.int .u64 N] w fun e w' => e = .returned (.string ⟨(Lib.decDigits N).toArray⟩) ∧ w = w' := by
  have HLN := Lib.hid (show (Lib.decDigits N).length ≤ 20 from dec_len N 19 (by omega))
  have HDP := Lib.hid (dec_pre N)
  have hr : N % 10 < 10 := Nat.mod_lt _ (by decide)
  have HD1 := Lib.hid (dig_one (N % 10) hr)
  generalize Lib.decDigits N = R at *
  go_enter Tryd.func64, Tryd.ntmps64
  go_wp2_with fail
  go_loop [0, 3] (fun xv sv => ∃ (x : Nat) (s : List UInt8), x < 18446744073709551616 ∧ s.length ≤ 20 ∧ xv = .int .u64 x ∧ sv = .string ⟨s.toArray⟩ ∧ Hid (R = pre x ++ s)) (fun x _ => (intOf x).toNat)
  case atStart => exact ⟨N / 10, [dgt (N % 10)], by omega, by simp, by go_num, by rw [HD1.out], HDP⟩
  case round =>
    obtain ⟨x, s, hx, hl, rfl, rfl, HR⟩ := hrel
    by_cases h0 : x = 0
    · subst h0
      go_wp2_with fail
      go_ret
      exact ⟨by rw [HR.out]; rfl, rfl⟩
    · have hp : (0 : Int) < (x : Int) := by omega
      have hr2 : x % 10 < 10 := Nat.mod_lt _ (by decide)
      have HN := Lib.hid (show R = pre (x / 10) ++ (dgt (x % 10) :: s) by rw [HR.out, pre_step x h0, List.append_assoc]; rfl)
      have hl2 : s.length + 1 ≤ 20 := by
        have := HLN.out
        rw [HN.out, List.length_append, List.length_cons] at this; omega
      go_wp2_with fail
      go_round
      case rel => exact ⟨x / 10, dgt (x % 10) :: s, by omega, by simpa using hl2, by go_num, by rw [dig_app _ hr2], HN⟩
      case measure => simp [intOf]; omega
theorem itoa_nat (n : Nat) : Lib.itoa (n : Int) = Lib.decDigits n := by
  unfold Lib.itoa
  rw [if_neg (by omega)]; rfl
theorem itoa_neg (n : Int) (h : n < 0) : Lib.itoa n = 45 :: Lib.decDigits n.natAbs := by
  unfold Lib.itoa
  rw [if_pos h]
set_option maxHeartbeats 1000000 in
theorem rDec_any (n : Nat) (w : World) (hn : n ≤ 4611686018427387904) :
    Calls Tryd.prog 58 #[.int .i64 n] w fun e w' => e = .returned (.string ⟨(Lib.decDigits n).toArray⟩) ∧ w = w' := by
  have HD := Lib.hid (rdgs_any n w (by omega))
  generalize Lib.decDigits n = R at *
  go_enter Tryd.func58, Tryd.ntmps58
  go_wp2_with fail
  refine HD.out.mono ?_
  rintro e w' ⟨rfl, rfl⟩
  go_wp2_with fail
  go_ret
  exact ⟨rfl, rfl⟩
set_option maxHeartbeats 1000000 in
theorem rdec_any (n : Int) (w : World) (hn : n.natAbs ≤ 4611686018427387904) :
    Calls Tryd.prog 45 #[.int .i64 n] w fun e w' => e = .returned (.string ⟨(Lib.itoa n).toArray⟩) ∧ w = w' := by
  rcases Int.lt_or_le n 0 with h | h
  · have HD := Lib.hid (rDec_any n.natAbs w hn)
    have HI := Lib.hid (show (⟨(Lib.itoa n).toArray⟩ : ByteArray) = ⟨#[45]⟩ ++ ⟨(Lib.decDigits n.natAbs).toArray⟩ by rw [itoa_neg n h, show 45 :: Lib.decDigits n.natAbs = [45] ++ Lib.decDigits n.natAbs from rfl, str_app])
    have hl : (Lib.decDigits n.natAbs).length ≤ 20 := dec_len _ 19 (by omega)
    generalize Lib.itoa n = R at *
    generalize Lib.decDigits n.natAbs = D at *
    obtain ⟨m, hm⟩ : ∃ m : Nat, n = -(m : Int) := ⟨n.natAbs, by omega⟩
    have e : n.natAbs = m := by omega
    rw [e] at HD hn
    subst hm
    clear e
    go_enter Tryd.func45, Tryd.ntmps45
    go_wp2_with fail
    refine HD.out.mono ?_
    rintro e w' ⟨rfl, rfl⟩
    go_wp2_with fail
    go_ret
    exact ⟨by rw [HI.out]; rfl, rfl⟩
  · obtain ⟨m, rfl⟩ := Int.eq_ofNat_of_zero_le h
    rw [itoa_nat]
    have HD := Lib.hid (rDec_any m w (by omega))
    generalize Lib.decDigits m = D at *
    go_enter Tryd.func45, Tryd.ntmps45
    go_wp2_with fail
    refine HD.out.mono ?_
    rintro e w' ⟨rfl, rfl⟩
    go_wp2_with fail
    go_ret
    exact ⟨rfl, rfl⟩
theorem rdec_same (n : Int) (w : World) (hn : n.natAbs ≤ 4611686018427387904) :
    Calls Tryd.prog 45 #[.int .i64 n] w fun e w' => e = .returned (.string ⟨(Lib.itoa n).toArray⟩) ∧ w' = w := (rdec_any n w hn).mono fun _ _ ⟨h, k⟩ => ⟨h, k.symm⟩

set_option maxHeartbeats 1000000 in
theorem rtext_no (a b : Int) (w : World) (hv : vld a b = false) (h0 : -9223372036854775808 ≤ a) (h1 : a ≤ 9223372036854775807) (k0 : -9223372036854775808 ≤ b) (k1 : b ≤ 9223372036854775807) :
    Calls Tryd.prog 23 #[.agg #[.int .i64 a, .int .i64 b]] w fun e w' => e = .returned (.tuple #[.string ⟨#[]⟩, .int .i64 1]) ∧ Below w.heap.size w w' := by
  have HV1 := Lib.hid (fun W => rvalid_any a b W h0 h1 k0 k1)
  rw [hv] at HV1
  clear hv
  go_enter Tryd.func23, Tryd.ntmps23
  go_wp2_with fail
  refine (HV1.out _).mono ?_
  rintro e w3 ⟨rfl, hg⟩
  have HG := Lib.hid ((Gr.one _ _).below.trans (hg.mono (Gr.one _ _).below.size))
  clear hg
  go_wp2_with fail
  go_ret2
  exact ⟨rfl, HG.out⟩
set_option maxHeartbeats 2000000 in
theorem rtext_yes (a b : Int) (w : World) (hv : vld a b = true) :
    Calls Tryd.prog 23 #[.agg #[.int .i64 a, .int .i64 b]] w fun e w' => e = .returned (.tuple #[.string ⟨(txt a b).toArray⟩, .int .i64 0]) ∧ Below w.heap.size w w' := by
  obtain ⟨v1, v2, v3, _⟩ := vld_iff.1 hv
  have HV1 := Lib.hid (fun W => rvalid_any a b W (by omega) (by omega) (by omega) (by omega))
  rw [hv] at HV1
  have DA := Lib.hid (fun W => rdec_same a W v3)
  have DB := Lib.hid (fun W => rdec_same b W (by omega))
  clear hv
  by_cases hb : 1 < b
  · have H := Lib.hid (show (⟨(txt a b).toArray⟩ : ByteArray) = ⟨(Lib.itoa a).toArray⟩ ++ ⟨#[47]⟩ ++ ⟨(Lib.itoa b).toArray⟩ by unfold txt; rw [if_pos hb, show Lib.itoa a ++ 47 :: Lib.itoa b = (Lib.itoa a ++ [47]) ++ Lib.itoa b by simp, str_app, str_app])
    have hb1 : (b == 1) = false := by simp; omega
    have l1 := itoa_len a v3
    have l2 := itoa_len b (by omega)
    generalize txt a b = T at *
    generalize Lib.itoa a = P at *
    generalize Lib.itoa b = Q at *
    go_enter Tryd.func23, Tryd.ntmps23
    go_wp2_with fail
    refine (HV1.out _).mono ?_
    rintro e w1 ⟨rfl, hg⟩
    have HG1 := Lib.hid ((Gr.one _ _).below.trans (hg.mono (Gr.one _ _).below.size))
    obtain ⟨s1, x1, y1, f1, e1⟩ := (Blk.made w (.int .i64 a) (.int .i64 b) 23).below hg
    clear hg
    go_wp2_with fail
    go_quiet ((first | (go_at_call_of 45 (Value.int IntKind.i64 a); exact Calls.quiet_of_same (DA.out _)) | (go_at_call_of 45 (Value.int IntKind.i64 b); exact Calls.quiet_of_same (DB.out _))))
    go_wp2_with fail
    go_ret2
    exact ⟨by rw [H.out]; rfl, HG1.out.trans ((Gr.drewN _ _).below.mono HG1.out.size)⟩
  · obtain rfl : b = 1 := by omega
    have H := Lib.hid (show (⟨(txt a 1).toArray⟩ : ByteArray) = ⟨(Lib.itoa a).toArray⟩ by unfold txt; rw [if_neg hb, List.append_nil])
    have l1 := itoa_len a v3
    generalize txt a 1 = T at *
    generalize Lib.itoa a = P at *
    go_enter Tryd.func23, Tryd.ntmps23
    go_wp2_with fail
    refine (HV1.out _).mono ?_
    rintro e w1 ⟨rfl, hg⟩
    have HG1 := Lib.hid ((Gr.one _ _).below.trans (hg.mono (Gr.one _ _).below.size))
    obtain ⟨s1, x1, y1, f1, e1⟩ := (Blk.made w (.int .i64 a) (.int .i64 1) 23).below hg
    clear hg
    go_wp2_with fail
    refine (DA.out _).mono ?_
    rintro e w2 ⟨rfl, rfl⟩
    go_wp2_with fail
    go_ret2
    exact ⟨by rw [H.out]; rfl, HG1.out⟩
end Go.Proofs.YtdmddfhjfkdlnaaDoor
