/- The contracts of Make and Split. Under the condition that the table of lengths lies in memory as the program lays it. -/
import Derived.Test.YtjebbmnjegndkaaGreatDoorA
namespace Go.Proofs.YtjebbmnjegndkaaGreatDoor
open Go.RowKit

theorem num_bd (y m d : Int) (y1 : 1800 ≤ y) (y2 : y ≤ 2073) (d1 : 1 ≤ d) (d2 : d ≤ 31) : -1000000 ≤ num y m d ∧ num y m d ≤ 1000000 := by
  unfold num dy dm; split <;> omega

set_option maxHeartbeats 1000000 in
theorem make_in (y m d : Int) (w : World) (hT : Tab w) (y1 : 1800 ≤ y) (y2 : y ≤ 2073) (m1 : 1 ≤ m) (m2 : m ≤ 12) (d1 : 1 ≤ d) (d2 : d ≤ len y m) :
    Calls Tryz.prog 5 #[.int .i64 y, .int .i64 m, .int .i64 d] w fun e w' => e = .returned (.tuple #[.int .i64 (mkV y m d), .int .i64 (mkE y m d)]) ∧ w = w' := by
  have HT := Lib.hid hT
  clear hT
  have hl := len_bd y m m1 m2
  by_cases hn : 0 ≤ num y m d ∧ num y m d ≤ 100000
  · have hE : mkE y m d = 0 := by simp [mkE, okY, okD, okN, *]
    have HE := Lib.hid hE
    have HV := Lib.hid (show mkV y m d = num y m d by simp [mkV, hE])
    clear hE
    obtain ⟨n1, n2⟩ := hn
    by_cases hm : m ≤ 2
    · have HN := Lib.hid (show num y m d = 365 * (y - 1) + (y - 1) / 4 - (y - 1) / 100 + (y - 1) / 400 + (153 * ((m + 9) % 12) + 2) / 5 + d - 1 - 657377 by simp only [num, dy, dm, if_pos hm])
      go_enter Tryz.func5, Tryz.ntmps5
      go_wp2_with fail
      refine (length_any _ _ _ (by omega) (by omega) m1 m2 HT.out).mono ?_
      rintro e w' ⟨rfl, rfl⟩
      go_wp2_with fail
      rw [← HN.out]
      refine (isDay_yes _ _ n1 n2).mono ?_
      rintro e w' ⟨rfl, rfl⟩
      go_wp2_with fail
      go_ret2
      exact ⟨by rw [HE.out, HV.out]; rfl, rfl⟩
    · have HN := Lib.hid (show num y m d = 365 * y + y / 4 - y / 100 + y / 400 + (153 * ((m + 9) % 12) + 2) / 5 + d - 1 - 657377 by simp only [num, dy, dm, if_neg hm])
      go_enter Tryz.func5, Tryz.ntmps5
      go_wp2_with fail
      refine (length_any _ _ _ (by omega) (by omega) m1 m2 HT.out).mono ?_
      rintro e w' ⟨rfl, rfl⟩
      go_wp2_with fail
      rw [← HN.out]
      refine (isDay_yes _ _ n1 n2).mono ?_
      rintro e w' ⟨rfl, rfl⟩
      go_wp2_with fail
      go_ret2
      exact ⟨by rw [HE.out, HV.out]; rfl, rfl⟩
  · have hE : mkE y m d = 9 := by simp [mkE, okY, okD, okN, *]
    have HE := Lib.hid hE
    have HV := Lib.hid (show mkV y m d = 0 by simp [mkV, hE])
    clear hE
    have n1 : num y m d < 0 ∨ 100000 < num y m d := by omega
    clear hn
    by_cases hm : m ≤ 2
    · have HN := Lib.hid (show num y m d = 365 * (y - 1) + (y - 1) / 4 - (y - 1) / 100 + (y - 1) / 400 + (153 * ((m + 9) % 12) + 2) / 5 + d - 1 - 657377 by simp only [num, dy, dm, if_pos hm])
      go_enter Tryz.func5, Tryz.ntmps5
      go_wp2_with fail
      refine (length_any _ _ _ (by omega) (by omega) m1 m2 HT.out).mono ?_
      rintro e w' ⟨rfl, rfl⟩
      go_wp2_with fail
      rw [← HN.out]
      refine (isDay_no _ _ n1).mono ?_
      rintro e w' ⟨rfl, rfl⟩
      go_wp2_with fail
      go_ret2
      exact ⟨by rw [HE.out, HV.out]; rfl, rfl⟩
    · have HN := Lib.hid (show num y m d = 365 * y + y / 4 - y / 100 + y / 400 + (153 * ((m + 9) % 12) + 2) / 5 + d - 1 - 657377 by simp only [num, dy, dm, if_neg hm])
      go_enter Tryz.func5, Tryz.ntmps5
      go_wp2_with fail
      refine (length_any _ _ _ (by omega) (by omega) m1 m2 HT.out).mono ?_
      rintro e w' ⟨rfl, rfl⟩
      go_wp2_with fail
      rw [← HN.out]
      refine (isDay_no _ _ n1).mono ?_
      rintro e w' ⟨rfl, rfl⟩
      go_wp2_with fail
      go_ret2
      exact ⟨by rw [HE.out, HV.out]; rfl, rfl⟩

set_option maxHeartbeats 1000000 in
theorem make_any (y m d : Int) (w : World) (hT : Tab w) :
    Calls Tryz.prog 5 #[.int .i64 y, .int .i64 m, .int .i64 d] w fun e w' => e = .returned (.tuple #[.int .i64 (mkV y m d), .int .i64 (mkE y m d)]) ∧ w = w' := by
  by_cases hy : 1800 ≤ y ∧ y ≤ 2073
  · obtain ⟨y1, y2⟩ := hy
    by_cases hd : 1 ≤ m ∧ m ≤ 12 ∧ 1 ≤ d ∧ d ≤ len y m
    · obtain ⟨m1, m2, d1, d2⟩ := hd
      exact make_in y m d w hT y1 y2 m1 m2 d1 d2
    · have HT := Lib.hid hT
      clear hT
      have hE : mkE y m d = 1 := by unfold mkE okY okD; rw [if_neg (by simp; omega), if_pos (by simpa using hd)]
      have HE := Lib.hid hE
      have HV := Lib.hid (show mkV y m d = 0 by simp [mkV, hE])
      clear hE
      by_cases m1 : 1 ≤ m
      · by_cases m2 : m ≤ 12
        · by_cases d1 : 1 ≤ d
          · have d2 : len y m < d := by omega
            have hl := len_bd y m m1 m2
            clear hd
            go_enter Tryz.func5, Tryz.ntmps5
            go_wp2_with fail
            refine (length_any _ _ _ (by omega) (by omega) m1 m2 HT.out).mono ?_
            rintro e w' ⟨rfl, rfl⟩
            go_wp2_with fail
            go_ret2
            exact ⟨by rw [HE.out, HV.out]; rfl, rfl⟩
          · clear hd
            go_enter Tryz.func5, Tryz.ntmps5
            go_wp2_with fail
            go_ret2
            exact ⟨by rw [HE.out, HV.out]; rfl, rfl⟩
        · clear hd
          go_enter Tryz.func5, Tryz.ntmps5
          go_wp2_with fail
          go_ret2
          exact ⟨by rw [HE.out, HV.out]; rfl, rfl⟩
      · clear hd
        go_enter Tryz.func5, Tryz.ntmps5
        go_wp2_with fail
        go_ret2
        exact ⟨by rw [HE.out, HV.out]; rfl, rfl⟩
  · clear hT
    have hE : mkE y m d = 9 := by unfold mkE okY; rw [if_pos (by simpa using hy)]
    have HE := Lib.hid hE
    have HV := Lib.hid (show mkV y m d = 0 by simp [mkV, hE])
    clear hE
    by_cases y1 : 1800 ≤ y
    · have y2 : 2073 < y := by omega
      clear hy
      go_enter Tryz.func5, Tryz.ntmps5
      go_wp2_with fail
      go_ret2
      exact ⟨by rw [HE.out, HV.out]; rfl, rfl⟩
    · have y2 : y < 1800 := by omega
      clear hy
      go_enter Tryz.func5, Tryz.ntmps5
      go_wp2_with fail
      go_ret2
      exact ⟨by rw [HE.out, HV.out]; rfl, rfl⟩

set_option maxHeartbeats 1000000 in
theorem split_no (n : Int) (w : World) (h : n < 0 ∨ 100000 < n) :
    Calls Tryz.prog 7 #[.int .i64 n] w fun e w' => e = .returned (.tuple #[.int .i64 0, .int .i64 0, .int .i64 0, .int .i64 1]) ∧ w = w' := by
  go_enter Tryz.func7, Tryz.ntmps7
  go_wp2_with fail
  refine (isDay_no _ _ h).mono ?_
  rintro e w' ⟨rfl, rfl⟩
  go_wp2_with fail
  exact bodyPost_ret (v := .tuple #[.int .i64 0, .int .i64 0, .int .i64 0, .int .i64 1]) (by simp [results, Tryz.results7, go_sem]) rfl ⟨rfl, rfl⟩

set_option maxHeartbeats 2000000 in
theorem split_yes (n : Int) (w : World) (h0 : 0 ≤ n) (h1 : n ≤ 100000) :
    Calls Tryz.prog 7 #[.int .i64 n] w fun e w' => e = .returned (.tuple #[.int .i64 (spY n), .int .i64 (spM n), .int .i64 (spD n), .int .i64 0]) ∧ w = w' := by
  have b0 := s0_bd n
  obtain ⟨b1, b2, _, _⟩ := s1_bd (s0 n) b0.1 b0.2
  obtain ⟨b3, b4⟩ := sy_bd (s0 n) b0.1 b0.2
  by_cases hm : spM n ≤ 2
  · have HY := Lib.hid (show spY n = 400 * ((n + 657377) / 146097) + sy (s0 n) + 1 by simp only [spY, if_pos hm])
    have HD := Lib.hid (show spD n = s1 (s0 n) - (153 * sm (s1 (s0 n)) + 2) / 5 + 1 from rfl)
    have HM := Lib.hid (show spM n = (sm (s1 (s0 n)) + 2) % 12 + 1 from rfl)
    simp only [spM, sm, s1, sy, s0] at b0 b1 b2 b3 b4 hm
    go_enter Tryz.func7, Tryz.ntmps7
    go_wp2_with fail
    refine (isDay_yes _ _ h0 h1).mono ?_
    rintro e w' ⟨rfl, rfl⟩
    go_wp2_with fail
    refine bodyPost_ret (v := .tuple #[.int .i64 (spY n), .int .i64 (spM n), .int .i64 (spD n), .int .i64 0]) ?_ rfl ⟨rfl, rfl⟩
    rw [HY.out, HD.out, HM.out]
    simp [results, Tryz.results7, go_sem, sm, s1, sy, s0]
  · have HY := Lib.hid (show spY n = 400 * ((n + 657377) / 146097) + sy (s0 n) by simp only [spY, if_neg hm])
    have HD := Lib.hid (show spD n = s1 (s0 n) - (153 * sm (s1 (s0 n)) + 2) / 5 + 1 from rfl)
    have HM := Lib.hid (show spM n = (sm (s1 (s0 n)) + 2) % 12 + 1 from rfl)
    simp only [spM, sm, s1, sy, s0] at b0 b1 b2 b3 b4 hm
    go_enter Tryz.func7, Tryz.ntmps7
    go_wp2_with fail
    refine (isDay_yes _ _ h0 h1).mono ?_
    rintro e w' ⟨rfl, rfl⟩
    go_wp2_with fail
    refine bodyPost_ret (v := .tuple #[.int .i64 (spY n), .int .i64 (spM n), .int .i64 (spD n), .int .i64 0]) ?_ rfl ⟨rfl, rfl⟩
    rw [HY.out, HD.out, HM.out]
    simp [results, Tryz.results7, go_sem, sm, s1, sy, s0]

set_option maxHeartbeats 400000 in
theorem week_yes (n : Int) (w : World) (h0 : 0 ≤ n) (h1 : n ≤ 100000) :
    Calls Tryz.prog 9 #[.int .i64 n] w fun e w' => e = .returned (.tuple #[.int .i64 ((n + 2) % 7), .int .i64 0]) ∧ w = w' := by
  go_enter Tryz.func9, Tryz.ntmps9
  go_wp2_with fail
  refine (isDay_yes _ _ h0 h1).mono ?_
  rintro e w' ⟨rfl, rfl⟩
  go_wp2_with fail
  go_ret2
  exact ⟨rfl, rfl⟩
set_option maxHeartbeats 400000 in
theorem week_no (n : Int) (w : World) (h : n < 0 ∨ 100000 < n) :
    Calls Tryz.prog 9 #[.int .i64 n] w fun e w' => e = .returned (.tuple #[.int .i64 0, .int .i64 1]) ∧ w = w' := by
  go_enter Tryz.func9, Tryz.ntmps9
  go_wp2_with fail
  refine (isDay_no _ _ h).mono ?_
  rintro e w' ⟨rfl, rfl⟩
  go_wp2_with fail
  go_ret2
  exact ⟨rfl, rfl⟩
end Go.Proofs.YtjebbmnjegndkaaGreatDoor
