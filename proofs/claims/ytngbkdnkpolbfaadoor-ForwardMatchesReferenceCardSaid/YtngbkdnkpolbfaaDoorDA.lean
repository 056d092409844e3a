/- The contracts of package date's length, Make and Split. Under the condition that the table of lengths lies in memory as the program lays it. -/
import Derived.Test.YtngbkdnkpolbfaaDoorFC
import Derived.Test.YtngbkdnkpolbfaaDoorPlainC
namespace Go.Proofs.YtngbkdnkpolbfaaDoor
open Go.RowKit

/-- the table of lengths lies in memory -/
def Tab (w : World) : Prop := ∀ k : Nat, k < 12 → w.cell? ⟨0, k, none⟩ = some (.int .i64 (tb k))

set_option maxHeartbeats 400000 in
theorem length_any (y m : Int) (w : World) (h0 : 0 ≤ y) (h1 : y ≤ 100000) (m1 : 1 ≤ m) (m2 : m ≤ 12) (hT : Tab w) :
    Calls Tryd.prog 68 #[.int .i64 y, .int .i64 m] w fun e w' => e = .returned (.int .i64 (len y m)) ∧ w = w' := by
  have hc := hT (m - 1).toNat (by omega)
  clear hT
  by_cases hm : m = 2
  · obtain rfl := hm
    have hc : w.cell? ⟨0, 1, none⟩ = some (.int .i64 28) := hc
    by_cases h4 : y % 4 = 0
    · have b4 : (y % 4 == 0) = true := by simp [h4]
      by_cases h100 : y % 100 = 0
      · have b100 : (y % 100 != 0) = false := by simp [h100]
        by_cases h400 : y % 400 = 0
        · have b400 : (y % 400 == 0) = true := by simp [h400]
          have H := Lib.hid (show len y 2 = 29 by simp [len, lp, b4, b100, b400])
          clear h4 h100 h400
          go_enter Tryd.func68, Tryd.ntmps68
          go_wp2
          go_ret
          exact ⟨by rw [H.out]; rfl, rfl⟩
        · have b400 : (y % 400 == 0) = false := by simp [h400]
          have H := Lib.hid (show len y 2 = 28 by simp [len, lp, b4, b100, b400, tb])
          clear h4 h100 h400
          go_enter Tryd.func68, Tryd.ntmps68
          go_wp2
          go_ret
          exact ⟨by rw [H.out]; rfl, rfl⟩
      · have b100 : (y % 100 != 0) = true := by simp [h100]
        have H := Lib.hid (show len y 2 = 29 by simp [len, lp, b4, b100])
        clear h4 h100
        go_enter Tryd.func68, Tryd.ntmps68
        go_wp2
        go_ret
        exact ⟨by rw [H.out]; rfl, rfl⟩
    · have b4 : (y % 4 == 0) = false := by simp [h4]
      have b400 : (y % 400 == 0) = false := by simp; omega
      have H := Lib.hid (show len y 2 = 28 by simp [len, lp, b4, b400, tb])
      clear h4
      go_enter Tryd.func68, Tryd.ntmps68
      go_wp2
      go_ret
      exact ⟨by rw [H.out]; rfl, rfl⟩
  · obtain ⟨k, rfl⟩ : ∃ k : Nat, m = k + 1 := ⟨(m - 1).toNat, by omega⟩
    have b : ((k : Int) + 1 == 2) = false := by simp only [beq_eq_false_iff_ne]; exact hm
    have H := Lib.hid (show len y (k + 1) = tb k by simp [len, hm])
    have hc : w.cell? ⟨0, k, none⟩ = some (.int .i64 (tb k)) := by simpa using hc
    have hk : k < 12 := by omega
    generalize tb k = t at *
    clear hm
    go_enter Tryd.func68, Tryd.ntmps68
    go_wp2
    go_ret
    exact ⟨by rw [H.out]; rfl, rfl⟩



theorem num_bd (y m d : Int) (y1 : 1800 ≤ y) (y2 : y ≤ 2073) (d1 : 1 ≤ d) (d2 : d ≤ 31) : -1000000 ≤ num y m d ∧ num y m d ≤ 1000000 := by
  unfold num dy dm; split <;> omega

set_option maxHeartbeats 1000000 in
theorem make_in (y m d : Int) (w : World) (hT : Tab w) (y1 : 1800 ≤ y) (y2 : y ≤ 2073) (m1 : 1 ≤ m) (m2 : m ≤ 12) (d1 : 1 ≤ d) (d2 : d ≤ len y m) :
    Calls Tryd.prog 55 #[.int .i64 y, .int .i64 m, .int .i64 d] w fun e w' => e = .returned (.tuple #[.int .i64 (mkV y m d), .int .i64 (mkE y m d)]) ∧ w = w' := by
  have HT := Lib.hid hT
  clear hT
  have hl := len_bd y m m1 m2
  by_cases hn : 0 ≤ num y m d ∧ num y m d ≤ 100000
  · have hE : mkE y m d = 0 := by simp [mkE, okY, okD, okN, *]
    have HE := Lib.hid hE
    have HV := Lib.hid (show mkV y m d = num y m d by simp [mkV, hE])
    clear hE
    obtain ⟨n1, n2⟩ := hn
    by_cases hm : m ≤ 2
    · have HN := Lib.hid (show num y m d = 365 * (y - 1) + (y - 1) / 4 - (y - 1) / 100 + (y - 1) / 400 + (153 * ((m + 9) % 12) + 2) / 5 + d - 1 - 657377 by simp only [num, dy, dm, if_pos hm])
      go_enter Tryd.func55, Tryd.ntmps55
      go_wp2_with fail
      refine (length_any _ _ _ (by omega) (by omega) m1 m2 HT.out).mono ?_
      rintro e w' ⟨rfl, rfl⟩
      go_wp2_with fail
      rw [← HN.out]
      refine (isDay_yes _ _ n1 n2).mono ?_
      rintro e w' ⟨rfl, rfl⟩
      go_wp2_with fail
      go_ret2
      exact ⟨by rw [HE.out, HV.out]; rfl, rfl⟩
    · have HN := Lib.hid (show num y m d = 365 * y + y / 4 - y / 100 + y / 400 + (153 * ((m + 9) % 12) + 2) / 5 + d - 1 - 657377 by simp only [num, dy, dm, if_neg hm])
      go_enter Tryd.func55, Tryd.ntmps55
      go_wp2_with fail
      refine (length_any _ _ _ (by omega) (by omega) m1 m2 HT.out).mono ?_
      rintro e w' ⟨rfl, rfl⟩
      go_wp2_with fail
      rw [← HN.out]
      refine (isDay_yes _ _ n1 n2).mono ?_
      rintro e w' ⟨rfl, rfl⟩
      go_wp2_with fail
      go_ret2
      exact ⟨by rw [HE.out, HV.out]; rfl, rfl⟩
  · have hE : mkE y m d = 9 := by simp [mkE, okY, okD, okN, *]
    have HE := Lib.hid hE
    have HV := Lib.hid (show mkV y m d = 0 by simp [mkV, hE])
    clear hE
    have n1 : num y m d < 0 ∨ 100000 < num y m d := by omega
    clear hn
    by_cases hm : m ≤ 2
    · have HN := Lib.hid (show num y m d = 365 * (y - 1) + (y - 1) / 4 - (y - 1) / 100 + (y - 1) / 400 + (153 * ((m + 9) % 12) + 2) / 5 + d - 1 - 657377 by simp only [num, dy, dm, if_pos hm])
      go_enter Tryd.func55, Tryd.ntmps55
      go_wp2_with fail
      refine (length_any _ _ _ (by omega) (by omega) m1 m2 HT.out).mono ?_
      rintro e w' ⟨rfl, rfl⟩
      go_wp2_with fail
      rw [← HN.out]
      refine (isDay_no _ _ n1).mono ?_
      rintro e w' ⟨rfl, rfl⟩
      go_wp2_with fail
      go_ret2
      exact ⟨by rw [HE.out, HV.out]; rfl, rfl⟩
    · have HN := Lib.hid (show num y m d = 365 * y + y / 4 - y / 100 + y / 400 + (153 * ((m + 9) % 12) + 2) / 5 + d - 1 - 657377 by simp only [num, dy, dm, if_neg hm])
      go_enter Tryd.func55, Tryd.ntmps55
      go_wp2_with fail
      refine (length_any _ _ _ (by omega) (by omega) m1 m2 HT.out).mono ?_
      rintro e w' ⟨rfl, rfl⟩
      go_wp2_with fail
      rw [← HN.out]
      refine (isDay_no _ _ n1).mono ?_
      rintro e w' ⟨rfl, rfl⟩
      go_wp2_with fail
      go_ret2
      exact ⟨by rw [HE.out, HV.out]; rfl, rfl⟩

set_option maxHeartbeats 1000000 in
theorem make_any (y m d : Int) (w : World) (hT : Tab w) :
    Calls Tryd.prog 55 #[.int .i64 y, .int .i64 m, .int .i64 d] w fun e w' => e = .returned (.tuple #[.int .i64 (mkV y m d), .int .i64 (mkE y m d)]) ∧ w = w' := by
  by_cases hy : 1800 ≤ y ∧ y ≤ 2073
  · obtain ⟨y1, y2⟩ := hy
    by_cases hd : 1 ≤ m ∧ m ≤ 12 ∧ 1 ≤ d ∧ d ≤ len y m
    · obtain ⟨m1, m2, d1, d2⟩ := hd
      exact make_in y m d w hT y1 y2 m1 m2 d1 d2
    · have HT := Lib.hid hT
      clear hT
      have hE : mkE y m d = 1 := by unfold mkE okY okD; rw [if_neg (by simp; omega), if_pos (by simpa using hd)]
      have HE := Lib.hid hE
      have HV := Lib.hid (show mkV y m d = 0 by simp [mkV, hE])
      clear hE
      by_cases m1 : 1 ≤ m
      · by_cases m2 : m ≤ 12
        · by_cases d1 : 1 ≤ d
          · have d2 : len y m < d := by omega
            have hl := len_bd y m m1 m2
            clear hd
            go_enter Tryd.func55, Tryd.ntmps55
            go_wp2_with fail
            refine (length_any _ _ _ (by omega) (by omega) m1 m2 HT.out).mono ?_
            rintro e w' ⟨rfl, rfl⟩
            go_wp2_with fail
            go_ret2
            exact ⟨by rw [HE.out, HV.out]; rfl, rfl⟩
          · clear hd
            go_enter Tryd.func55, Tryd.ntmps55
            go_wp2_with fail
            go_ret2
            exact ⟨by rw [HE.out, HV.out]; rfl, rfl⟩
        · clear hd
          go_enter Tryd.func55, Tryd.ntmps55
          go_wp2_with fail
          go_ret2
          exact ⟨by rw [HE.out, HV.out]; rfl, rfl⟩
      · clear hd
        go_enter Tryd.func55, Tryd.ntmps55
        go_wp2_with fail
        go_ret2
        exact ⟨by rw [HE.out, HV.out]; rfl, rfl⟩
  · clear hT
    have hE : mkE y m d = 9 := by unfold mkE okY; rw [if_pos (by simpa using hy)]
    have HE := Lib.hid hE
    have HV := Lib.hid (show mkV y m d = 0 by simp [mkV, hE])
    clear hE
    by_cases y1 : 1800 ≤ y
    · have y2 : 2073 < y := by omega
      clear hy
      go_enter Tryd.func55, Tryd.ntmps55
      go_wp2_with fail
      go_ret2
      exact ⟨by rw [HE.out, HV.out]; rfl, rfl⟩
    · have y2 : y < 1800 := by omega
      clear hy
      go_enter Tryd.func55, Tryd.ntmps55
      go_wp2_with fail
      go_ret2
      exact ⟨by rw [HE.out, HV.out]; rfl, rfl⟩

set_option maxHeartbeats 1000000 in
theorem split_no (n : Int) (w : World) (h : n < 0 ∨ 100000 < n) :
    Calls Tryd.prog 44 #[.int .i64 n] w fun e w' => e = .returned (.tuple #[.int .i64 0, .int .i64 0, .int .i64 0, .int .i64 1]) ∧ w = w' := by
  go_enter Tryd.func44, Tryd.ntmps44
  go_wp2_with fail
  refine (isDay_no _ _ h).mono ?_
  rintro e w' ⟨rfl, rfl⟩
  go_wp2_with fail
  exact bodyPost_ret (v := .tuple #[.int .i64 0, .int .i64 0, .int .i64 0, .int .i64 1]) (by simp [results, Tryd.results44, go_sem]) rfl ⟨rfl, rfl⟩

set_option maxHeartbeats 2000000 in
theorem split_yes (n : Int) (w : World) (h0 : 0 ≤ n) (h1 : n ≤ 100000) :
    Calls Tryd.prog 44 #[.int .i64 n] w fun e w' => e = .returned (.tuple #[.int .i64 (spY n), .int .i64 (spM n), .int .i64 (spD n), .int .i64 0]) ∧ w = w' := by
  have b0 := s0_bd n
  obtain ⟨b1, b2, _, _⟩ := s1_bd (s0 n) b0.1 b0.2
  obtain ⟨b3, b4⟩ := sy_bd (s0 n) b0.1 b0.2
  by_cases hm : spM n ≤ 2
  · have HY := Lib.hid (show spY n = 400 * ((n + 657377) / 146097) + sy (s0 n) + 1 by simp only [spY, if_pos hm])
    have HD := Lib.hid (show spD n = s1 (s0 n) - (153 * sm (s1 (s0 n)) + 2) / 5 + 1 from rfl)
    have HM := Lib.hid (show spM n = (sm (s1 (s0 n)) + 2) % 12 + 1 from rfl)
    simp only [spM, sm, s1, sy, s0] at b0 b1 b2 b3 b4 hm
    go_enter Tryd.func44, Tryd.ntmps44
    go_wp2_with fail
    refine (isDay_yes _ _ h0 h1).mono ?_
    rintro e w' ⟨rfl, rfl⟩
    go_wp2_with fail
    refine bodyPost_ret (v := .tuple #[.int .i64 (spY n), .int .i64 (spM n), .int .i64 (spD n), .int .i64 0]) ?_ rfl ⟨rfl, rfl⟩
    rw [HY.out, HD.out, HM.out]
    simp [results, Tryd.results44, go_sem, sm, s1, sy, s0]
  · have HY := Lib.hid (show spY n = 400 * ((n + 657377) / 146097) + sy (s0 n) by simp only [spY, if_neg hm])
    have HD := Lib.hid (show spD n = s1 (s0 n) - (153 * sm (s1 (s0 n)) + 2) / 5 + 1 from rfl)
    have HM := Lib.hid (show spM n = (sm (s1 (s0 n)) + 2) % 12 + 1 from rfl)
    simp only [spM, sm, s1, sy, s0] at b0 b1 b2 b3 b4 hm
    go_enter Tryd.func44, Tryd.ntmps44
    go_wp2_with fail
    refine (isDay_yes _ _ h0 h1).mono ?_
    rintro e w' ⟨rfl, rfl⟩
    go_wp2_with fail
    refine bodyPost_ret (v := .tuple #[.int .i64 (spY n), .int .i64 (spM n), .int .i64 (spD n), .int .i64 0]) ?_ rfl ⟨rfl, rfl⟩
    rw [HY.out, HD.out, HM.out]
    simp [results, Tryd.results44, go_sem, sm, s1, sy, s0]

end Go.Proofs.YtngbkdnkpolbfaaDoor
