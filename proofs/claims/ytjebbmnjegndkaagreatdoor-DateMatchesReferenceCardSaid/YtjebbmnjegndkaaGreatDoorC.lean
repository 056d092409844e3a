/- The contracts of Months and of the reference's Length. Under the condition that the table of lengths lies in memory as the program lays it. -/
import Derived.Test.YtjebbmnjegndkaaGreatDoorB
namespace Go.Proofs.YtjebbmnjegndkaaGreatDoor
open Go.RowKit

set_option maxHeartbeats 400000 in
theorem months_no (n a : Int) (w : World) (h : n < 0 ∨ 100000 < n) :
    Calls Tryz.prog 11 #[.int .i64 n, .int .i64 a] w fun e w' => e = .returned (.tuple #[.int .i64 0, .int .i64 1]) ∧ w = w' := by
  go_enter Tryz.func11, Tryz.ntmps11
  go_wp2_with fail
  refine (split_no _ _ h).mono ?_
  rintro e w' ⟨rfl, rfl⟩
  go_wp2_with fail
  go_ret2
  exact ⟨rfl, rfl⟩

set_option maxHeartbeats 1000000 in
theorem months_yes (n a : Int) (w : World) (hT : Tab w) (h0 : 0 ≤ n) (h1 : n ≤ 100000) :
    Calls Tryz.prog 11 #[.int .i64 n, .int .i64 a] w fun e w' => e = .returned (.tuple #[.int .i64 (moV n a), .int .i64 (moE n a)]) ∧ w = w' := by
  have HT := Lib.hid hT
  clear hT
  have ⟨y1, y2⟩ := split_yr n h0 h1
  have ⟨m1, m2, d1, d2, _⟩ := split_ok n
  have hl := len_bd (spY n) (spM n) m1 m2
  by_cases ha : a < -3288 ∨ 3288 < a
  · have HV := Lib.hid (show moV n a = 0 by unfold moV; rw [if_pos ha])
    have HE := Lib.hid (show moE n a = 9 by unfold moE; rw [if_pos ha])
    rcases ha with ha | ha
    · go_enter Tryz.func11, Tryz.ntmps11
      go_wp2_with fail
      refine (split_yes _ _ h0 h1).mono ?_
      rintro e w' ⟨rfl, rfl⟩
      go_wp2_with fail
      go_ret2
      exact ⟨by rw [HE.out, HV.out]; rfl, rfl⟩
    · have ha' : -3288 ≤ a := by omega
      go_enter Tryz.func11, Tryz.ntmps11
      go_wp2_with fail
      refine (split_yes _ _ h0 h1).mono ?_
      rintro e w' ⟨rfl, rfl⟩
      go_wp2_with fail
      go_ret2
      exact ⟨by rw [HE.out, HV.out]; rfl, rfl⟩
  · have HV := Lib.hid (show moV n a = _ by unfold moV; rw [if_neg ha])
    have HE := Lib.hid (show moE n a = _ by unfold moE; rw [if_neg ha])
    have a1 : -3288 ≤ a := by omega
    have a2 : a ≤ 3288 := by omega
    clear ha
    have ba1 : decide (a < -3288) = false := by simp; omega
    have ba2 : decide (3288 < a) = false := by simp; omega
    have HK := Lib.hid (show mk n a = 12 * spY n + spM n - 1 + a from rfl)
    have k1 : 0 ≤ mk n a := by unfold mk; omega
    have k2 : mk n a ≤ 100000 := by unfold mk; omega
    have hl2 := len_bd (mk n a / 12) (mk n a % 12 + 1) (by omega) (by omega)
    go_enter Tryz.func11, Tryz.ntmps11
    go_wp2_with fail
    refine (split_yes _ _ h0 h1).mono ?_
    rintro e w' ⟨rfl, rfl⟩
    go_wp2_with fail
    rw [← HK.out]
    refine (length_any _ _ _ (by omega) (by omega) (by omega) (by omega) HT.out).mono ?_
    rintro e w' ⟨rfl, rfl⟩
    go_wp2_with fail
    · have hlt : len (mk n a / 12) (mk n a % 12 + 1) < spD n := by assumption
      have HM := Lib.hid (show min (spD n) (len (mk n a / 12) (mk n a % 12 + 1)) = len (mk n a / 12) (mk n a % 12 + 1) by omega)
      refine (make_any _ _ _ _ HT.out).mono ?_
      rintro e w' ⟨rfl, rfl⟩
      go_wp2_with fail
      go_ret2
      exact ⟨by rw [HE.out, HV.out, HM.out]; rfl, rfl⟩
    · have hlt : spD n ≤ len (mk n a / 12) (mk n a % 12 + 1) := by assumption
      have HM := Lib.hid (show min (spD n) (len (mk n a / 12) (mk n a % 12 + 1)) = spD n by omega)
      refine (make_any _ _ _ _ HT.out).mono ?_
      rintro e w' ⟨rfl, rfl⟩
      go_wp2_with fail
      go_ret2
      exact ⟨by rw [HE.out, HV.out, HM.out]; rfl, rfl⟩

set_option maxHeartbeats 400000 in
theorem leap_any (y : Int) (w : World) (h0 : 0 ≤ y) (h1 : y ≤ 100000) :
    Calls Tryz.prog 38 #[.int .i64 y] w fun e w' => e = .returned (.bool (lp y)) ∧ w = w' := by
  by_cases h4 : y % 4 = 0
  · have b4 : (y % 4 == 0) = true := by simp [h4]
    by_cases h100 : y % 100 = 0
    · have b100 : (y % 100 != 0) = false := by simp [h100]
      by_cases h400 : y % 400 = 0
      · have b400 : (y % 400 == 0) = true := by simp [h400]
        have H := Lib.hid (show lp y = true by simp [lp, b4, b100, b400])
        clear h4 h100 h400
        go_enter Tryz.func38, Tryz.ntmps38
        go_wp2
        go_ret
        exact ⟨by rw [H.out]; rfl, rfl⟩
      · have b400 : (y % 400 == 0) = false := by simp [h400]
        have H := Lib.hid (show lp y = false by simp [lp, b4, b100, b400])
        clear h4 h100 h400
        go_enter Tryz.func38, Tryz.ntmps38
        go_wp2
        go_ret
        exact ⟨by rw [H.out]; rfl, rfl⟩
    · have b100 : (y % 100 != 0) = true := by simp [h100]
      have H := Lib.hid (show lp y = true by simp [lp, b4, b100])
      clear h4 h100
      go_enter Tryz.func38, Tryz.ntmps38
      go_wp2
      go_ret
      exact ⟨by rw [H.out]; rfl, rfl⟩
  · have b4 : (y % 4 == 0) = false := by simp [h4]
    have b400 : (y % 400 == 0) = false := by simp; omega
    have H := Lib.hid (show lp y = false by simp [lp, b4, b400])
    clear h4
    go_enter Tryz.func38, Tryz.ntmps38
    go_wp2
    go_ret
    exact ⟨by rw [H.out]; rfl, rfl⟩

set_option maxHeartbeats 1000000 in
theorem rlength_any (y m : Int) (w : World) (h0 : 0 ≤ y) (h1 : y ≤ 100000) (m1 : 1 ≤ m) (m2 : m ≤ 12) :
    Calls Tryz.prog 21 #[.int .i64 y, .int .i64 m] w fun e w' => e = .returned (.int .i64 (len y m)) ∧ w = w' := by
  rcases mcases m m1 m2 with rfl | rfl | rfl | rfl | rfl | rfl | rfl | rfl | rfl | rfl | rfl | rfl
  case inr.inl =>
    cases hl : lp y
    · have H := Lib.hid (show len y 2 = 28 by rw [len_feb, hl]; rfl)
      have HL := Lib.hid hl
      clear hl
      go_enter Tryz.func21, Tryz.ntmps21
      go_wp2_with fail
      refine (leap_any _ _ h0 h1).mono ?_
      rintro e w' ⟨rfl, rfl⟩
      rw [HL.out]
      go_wp2_with fail
      go_ret
      exact ⟨by rw [H.out]; rfl, rfl⟩
    · have H := Lib.hid (show len y 2 = 29 by rw [len_feb, hl]; rfl)
      have HL := Lib.hid hl
      clear hl
      go_enter Tryz.func21, Tryz.ntmps21
      go_wp2_with fail
      refine (leap_any _ _ h0 h1).mono ?_
      rintro e w' ⟨rfl, rfl⟩
      rw [HL.out]
      go_wp2_with fail
      go_ret
      exact ⟨by rw [H.out]; rfl, rfl⟩
  all_goals
    go_enter Tryz.func21, Tryz.ntmps21
    go_wp2_with fail
    go_ret
    exact ⟨by unfold len tb; rfl, rfl⟩
end Go.Proofs.YtjebbmnjegndkaaGreatDoor
