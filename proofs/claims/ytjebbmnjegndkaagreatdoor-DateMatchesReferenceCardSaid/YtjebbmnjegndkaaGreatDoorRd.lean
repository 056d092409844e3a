/- The contract of the reference's Months. Under no condition. -/
import Derived.Test.YtjebbmnjegndkaaGreatDoorRc
namespace Go.Proofs.YtjebbmnjegndkaaGreatDoor
open Go.RowKit
set_option maxHeartbeats 1000000 in
theorem rmonths_no (n a : Int) (w : World) (h : n < 0 ∨ 100000 < n) :
    Calls Tryz.prog 12 #[.int .i64 n, .int .i64 a] w fun e w' => e = .returned (.tuple #[.int .i64 0, .int .i64 1]) ∧ w = w' := by
  go_enter Tryz.func12, Tryz.ntmps12
  go_wp2_with fail
  refine (rsplit_no _ _ h).mono ?_
  rintro e w' ⟨rfl, rfl⟩
  go_wp2_with fail
  go_ret2
  exact ⟨rfl, rfl⟩
set_option maxHeartbeats 2000000 in
theorem rmonths_yes (n a : Int) (w : World) (h0 : 0 ≤ n) (h1 : n ≤ 100000) :
    Calls Tryz.prog 12 #[.int .i64 n, .int .i64 a] w fun e w' => e = .returned (.tuple #[.int .i64 (moV n a), .int .i64 (moE n a)]) ∧ w = w' := by
  have ⟨y1, y2⟩ := split_yr n h0 h1
  have ⟨m1, m2, d1, d2, _⟩ := split_ok n
  have hl := len_bd (spY n) (spM n) m1 m2
  by_cases ha : a < -5000 ∨ 5000 < a
  · have HV := Lib.hid (show moV n a = 0 by unfold moV; rw [if_pos (by omega)])
    have HE := Lib.hid (show moE n a = 9 by unfold moE; rw [if_pos (by omega)])
    rcases ha with ha | ha
    · go_enter Tryz.func12, Tryz.ntmps12
      go_wp2_with fail
      refine (rsplit_yes _ _ h0 h1).mono ?_
      rintro e w' ⟨rfl, rfl⟩
      go_wp2_with fail
      go_ret2
      exact ⟨by rw [HE.out, HV.out]; rfl, rfl⟩
    · have ha' : -5000 ≤ a := by omega
      go_enter Tryz.func12, Tryz.ntmps12
      go_wp2_with fail
      refine (rsplit_yes _ _ h0 h1).mono ?_
      rintro e w' ⟨rfl, rfl⟩
      go_wp2_with fail
      go_ret2
      exact ⟨by rw [HE.out, HV.out]; rfl, rfl⟩
  · have HO := Lib.hid (mo_eq n a h0 h1)
    have a1 : -5000 ≤ a := by omega
    have a2 : a ≤ 5000 := by omega
    clear ha
    have HK := Lib.hid (show mk n a = 12 * spY n + spM n - 1 + a from rfl)
    have k1 : 0 ≤ mk n a := by unfold mk; omega
    have k2 : mk n a ≤ 100000 := by unfold mk; omega
    have hl2 := len_bd (mk n a / 12) (mk n a % 12 + 1) (by omega) (by omega)
    have RL := Lib.hid (rlength_any (mk n a / 12) (mk n a % 12 + 1) w (by omega) (by omega) (by omega) (by omega))
    have TM := Lib.hid (show toM (mk n a) (spD n) = min (spD n) (len (mk n a / 12) (mk n a % 12 + 1)) from rfl)
    go_enter Tryz.func12, Tryz.ntmps12
    go_wp2_with fail
    refine (rsplit_yes _ _ h0 h1).mono ?_
    rintro e w' ⟨rfl, rfl⟩
    go_wp2_with fail
    rw [← HK.out]
    refine RL.out.mono ?_
    rintro e w' ⟨rfl, rfl⟩
    go_wp2_with fail
    · have hlt : len (mk n a / 12) (mk n a % 12 + 1) < spD n := by assumption
      have HM := Lib.hid (show min (spD n) (len (mk n a / 12) (mk n a % 12 + 1)) = len (mk n a / 12) (mk n a % 12 + 1) by omega)
      refine RL.out.mono ?_
      rintro e w' ⟨rfl, rfl⟩
      go_wp2_with fail
      refine (rmake_any _ _ _ _).mono ?_
      rintro e w' ⟨rfl, rfl⟩
      go_wp2_with fail
      go_ret2
      exact ⟨by rw [HO.out.1, HO.out.2, TM.out, HM.out]; rfl, rfl⟩
    · have hlt : spD n ≤ len (mk n a / 12) (mk n a % 12 + 1) := by assumption
      have HM := Lib.hid (show min (spD n) (len (mk n a / 12) (mk n a % 12 + 1)) = spD n by omega)
      refine (rmake_any _ _ _ _).mono ?_
      rintro e w' ⟨rfl, rfl⟩
      go_wp2_with fail
      go_ret2
      exact ⟨by rw [HO.out.1, HO.out.2, TM.out, HM.out]; rfl, rfl⟩
end Go.Proofs.YtjebbmnjegndkaaGreatDoor
