/- The contract of the reference's number. Under no condition. -/
import Derived.Test.YtdmddfhjfkdlnaaDoorRm
import Derived.Test.YtdmddfhjfkdlnaaDoorPu
namespace Go.Proofs.YtdmddfhjfkdlnaaDoor
open Go.RowKit

set_option maxHeartbeats 2000000 in
set_option maxRecDepth 100000 in
theorem number_any (s : ByteArray) (w : World) (hs : s.size ≤ 100) :
    Calls Tryd.prog 48 #[.string s] w fun e w' => e = .returned (.tuple #[.int .i64 (nmV s.data.toList), .bool (nmB s.data.toList)]) ∧ w = w' := by
  have hsz : s.data.toList.length = s.size := by simp
  have HV := Lib.hid (show nmV s.data.toList = (nmGo 0 s.data.toList).getD 0 from rfl)
  have HB := Lib.hid (show nmB s.data.toList = ((nmGo 0 s.data.toList).isSome && !s.data.toList.isEmpty) from rfl)
  have HT := Lib.hid (show ∀ (k : Nat) (h : k < s.size) (n : Nat), nmGo 0 (s.data.toList.take k) = some n → nmGo 0 (s.data.toList.take (k + 1)) = if 48 ≤ (s[k]).toNat ∧ (s[k]).toNat ≤ 57 ∧ n ≤ 461168601842738790 then some (10 * n + ((s[k]).toNat - 48)) else none from fun k h n hn => nm_take s.data.toList k (by rw [hsz]; exact h) n hn)
  have HF := Lib.hid (nm_fall s.data.toList)
  have HTK := Lib.hid (show s.data.toList.take s.size = s.data.toList by rw [← hsz, List.take_length])
  have HEM := Lib.hid (show s.data.toList.isEmpty = decide (s.size = 0) by rw [← hsz]; cases s.data.toList <;> simp)
  clear hsz
  generalize nmV s.data.toList = V at *
  generalize nmB s.data.toList = B at *
  generalize s.data.toList = l at *
  go_enter Tryd.func48, Tryd.ntmps48
  go_wp2_with fail
  go_loop [4, 5] (fun nv iv => ∃ (k n : Nat), k ≤ s.size ∧ n ≤ 4611686018427387909 ∧ nv = .int .i64 n ∧ iv = .int .i64 k ∧ Hid (nmGo 0 (l.take k) = some n)) (fun _ i => s.size - (intOf i).toNat)
  case atStart => exact ⟨0, 0, Nat.zero_le _, by omega, rfl, rfl, Lib.hid rfl⟩
  case round =>
    obtain ⟨k, n, hk, hn, rfl, rfl, HN⟩ := hrel
    by_cases hlt : k < s.size
    · have HS := Lib.hid (HT.out k hlt n HN.out)
      have hc := (s[k]).toNat_lt
      by_cases h1 : 48 ≤ (s[k]).toNat ∧ (s[k]).toNat ≤ 57 ∧ n ≤ 461168601842738790
      · rw [if_pos h1] at HS
        obtain ⟨a1, a2, a3⟩ := h1
        have HS' := HS
        clear HS
        go_wp2_with fail
        go_round
        case rel => exact ⟨k + 1, 10 * n + (s[k].toNat - 48), by omega, by omega, by go_num, by go_num, HS'⟩
        case measure => simp [intOf]; omega
      · rw [if_neg h1] at HS
        have HZ := Lib.hid (HF.out _ HS.out)
        have HV0 : Hid (V = 0) := Lib.hid (by rw [HV.out, HZ.out]; rfl)
        have HB0 : Hid (B = false) := Lib.hid (by rw [HB.out, HZ.out]; rfl)
        clear HS HZ
        by_cases c1 : (s[k]).toNat < 48
        · clear h1
          go_wp2_with fail
          go_ret2
          exact ⟨by rw [HV0.out, HB0.out]; rfl, rfl⟩
        by_cases c2 : 57 < (s[k]).toNat
        · clear h1
          go_wp2_with fail
          go_ret2
          exact ⟨by rw [HV0.out, HB0.out]; rfl, rfl⟩
        · have c3 : 461168601842738790 < n := by omega
          clear h1
          go_wp2_with fail
          go_ret2
          exact ⟨by rw [HV0.out, HB0.out]; rfl, rfl⟩
    · obtain rfl : k = s.size := by omega
      have HE := Lib.hid (show nmGo 0 l = some n by rw [← HTK.out]; exact HN.out)
      have HV0 : Hid (V = n) := Lib.hid (by rw [HV.out, HE.out]; rfl)
      have HB0 : Hid (B = decide (0 < s.size)) := Lib.hid (by rw [HB.out, HE.out, HEM.out, Bool.eq_iff_iff]; simp only [Option.isSome_some, Bool.true_and, Bool.not_eq_true', decide_eq_false_iff_not, decide_eq_true_eq]; omega)
      clear HE
      go_wp2_with fail
      go_ret2
      exact ⟨by rw [HV0.out, HB0.out]; rfl, rfl⟩
end Go.Proofs.YtdmddfhjfkdlnaaDoor
