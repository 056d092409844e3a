/- The contracts of the reference's leap, Length, first, Make, Is, Split. Under no condition. -/
import Derived.Test.YtngbkdnkpolbfaaDoorDT
import Derived.Test.YtngbkdnkpolbfaaDoorPlainC
namespace Go.Proofs.YtngbkdnkpolbfaaDoor
open Go.RowKit
set_option maxHeartbeats 400000 in
theorem leap_any (y : Int) (w : World) (h0 : 0 ≤ y) (h1 : y ≤ 100000) :
    Calls Tryd.prog 72 #[.int .i64 y] w fun e w' => e = .returned (.bool (lp y)) ∧ w = w' := by
  by_cases h4 : y % 4 = 0
  · have b4 : (y % 4 == 0) = true := by simp [h4]
    by_cases h100 : y % 100 = 0
    · have b100 : (y % 100 != 0) = false := by simp [h100]
      by_cases h400 : y % 400 = 0
      · have b400 : (y % 400 == 0) = true := by simp [h400]
        have H := Lib.hid (show lp y = true by simp [lp, b4, b100, b400])
        clear h4 h100 h400
        go_enter Tryd.func72, Tryd.ntmps72
        go_wp2
        go_ret
        exact ⟨by rw [H.out]; rfl, rfl⟩
      · have b400 : (y % 400 == 0) = false := by simp [h400]
        have H := Lib.hid (show lp y = false by simp [lp, b4, b100, b400])
        clear h4 h100 h400
        go_enter Tryd.func72, Tryd.ntmps72
        go_wp2
        go_ret
        exact ⟨by rw [H.out]; rfl, rfl⟩
    · have b100 : (y % 100 != 0) = true := by simp [h100]
      have H := Lib.hid (show lp y = true by simp [lp, b4, b100])
      clear h4 h100
      go_enter Tryd.func72, Tryd.ntmps72
      go_wp2
      go_ret
      exact ⟨by rw [H.out]; rfl, rfl⟩
  · have b4 : (y % 4 == 0) = false := by simp [h4]
    have b400 : (y % 400 == 0) = false := by simp; omega
    have H := Lib.hid (show lp y = false by simp [lp, b4, b400])
    clear h4
    go_enter Tryd.func72, Tryd.ntmps72
    go_wp2
    go_ret
    exact ⟨by rw [H.out]; rfl, rfl⟩

set_option maxHeartbeats 1000000 in
theorem rlength_any (y m : Int) (w : World) (h0 : 0 ≤ y) (h1 : y ≤ 100000) (m1 : 1 ≤ m) (m2 : m ≤ 12) :
    Calls Tryd.prog 62 #[.int .i64 y, .int .i64 m] w fun e w' => e = .returned (.int .i64 (len y m)) ∧ w = w' := by
  rcases mcases m m1 m2 with rfl | rfl | rfl | rfl | rfl | rfl | rfl | rfl | rfl | rfl | rfl | rfl
  case inr.inl =>
    cases hl : lp y
    · have H := Lib.hid (show len y 2 = 28 by rw [len_feb, hl]; rfl)
      have HL := Lib.hid hl
      clear hl
      go_enter Tryd.func62, Tryd.ntmps62
      go_wp2_with fail
      refine (leap_any _ _ h0 h1).mono ?_
      rintro e w' ⟨rfl, rfl⟩
      rw [HL.out]
      go_wp2_with fail
      go_ret
      exact ⟨by rw [H.out]; rfl, rfl⟩
    · have H := Lib.hid (show len y 2 = 29 by rw [len_feb, hl]; rfl)
      have HL := Lib.hid hl
      clear hl
      go_enter Tryd.func62, Tryd.ntmps62
      go_wp2_with fail
      refine (leap_any _ _ h0 h1).mono ?_
      rintro e w' ⟨rfl, rfl⟩
      rw [HL.out]
      go_wp2_with fail
      go_ret
      exact ⟨by rw [H.out]; rfl, rfl⟩
  all_goals
    go_enter Tryd.func62, Tryd.ntmps62
    go_wp2_with fail
    go_ret
    exact ⟨by unfold len tb; rfl, rfl⟩
theorem num_next (y : Int) : num (y + 1) 1 1 = num y 1 1 + if lp y = true then 366 else 365 := by
  have h := dy_succ (y - 1)
  rw [show y - 1 + 1 = y by omega] at h
  rw [num_eq, num_eq]
  have e1 : yr (y + 1) 1 = y := by unfold yr; simp
  have e2 : yr y 1 = y - 1 := by unfold yr; simp
  rw [e1, e2, h]
  omega
theorem num_first_bd (y : Int) (h1 : 1800 ≤ y) (h2 : y ≤ 2100) : 0 ≤ num y 1 1 ∧ num y 1 1 ≤ 1000000 := by
  refine ⟨num_low y h1, ?_⟩
  unfold num dy dm; split <;> omega
set_option maxHeartbeats 2000000 in
set_option maxRecDepth 100000 in
theorem first_any (Y : Int) (w : World) (h1 : 1800 ≤ Y) (h2 : Y ≤ 2100) :
    Calls Tryd.prog 61 #[.int .i64 Y] w fun e w' => e = .returned (.int .i64 (num Y 1 1)) ∧ w = w' := by
  go_enter Tryd.func61, Tryd.ntmps61
  go_wp2_with fail
  go_loop [3, 4] (fun n y => ∃ k : Int, 1800 ≤ k ∧ k ≤ Y ∧ n = .int .i64 (num k 1 1) ∧ y = .int .i64 k) (fun _ y => (Y - intOf y).toNat)
  case atStart => exact ⟨1800, by omega, h1, by rw [show num 1800 1 1 = 0 by decide +kernel], rfl⟩
  case round =>
    obtain ⟨k, k1, k2, rfl, rfl⟩ := hrel
    have hn := Lib.hid (num_next k)
    have ⟨b1, b2⟩ := num_first_bd k k1 (by omega)
    have hp := leap_any k w (by omega) (by omega)
    obtain ⟨N, HN⟩ : ∃ N, num k 1 1 = N := ⟨_, rfl⟩
    rw [HN] at b1 b2 hn ⊢
    have HM := Lib.hid HN
    clear HN
    by_cases hk : k < Y
    · cases hl : lp k with
      | true =>
        rw [hl] at hp hn
        go_wp2_with fail
        refine hp.mono ?_
        rintro e w' ⟨rfl, rfl⟩
        go_wp2_with fail
        refine ⟨⟨k + 1, by omega, by omega, ?_, rfl⟩, ?_⟩
        · rw [hn.out, if_pos trivial, Int.add_assoc]; rfl
        · simp only [intOf]; omega
      | false =>
        rw [hl] at hp hn
        go_wp2_with fail
        refine hp.mono ?_
        rintro e w' ⟨rfl, rfl⟩
        go_wp2_with fail
        refine ⟨⟨k + 1, by omega, by omega, ?_, rfl⟩, ?_⟩
        · rw [hn.out, if_neg (by simp)]
        · simp only [intOf]; omega
    · have e : k = Y := by omega
      subst e
      go_wp2_with fail
      go_ret
      exact ⟨by rw [HM.out]; rfl, rfl⟩
theorem num_day (y m d : Int) : num y m d = num y m 1 + d - 1 := by unfold num; omega
theorem num_step (y k d : Int) (h1 : 1 ≤ k) (h2 : k < 12) : num y (k + 1) d = num y k d + len y k := by
  have h := num_month y k h1 h2
  rw [num_day y (k + 1) d, num_day y k d, h, num_day y k (len y k)]
  omega
theorem num_bd2 (y m d : Int) (y1 : 1800 ≤ y) (y2 : y ≤ 2100) (d1 : 1 ≤ d) (d2 : d ≤ 31) : -1000000 ≤ num y m d ∧ num y m d ≤ 1000000 := by
  unfold num dy dm; split <;> omega
set_option maxHeartbeats 2000000 in
set_option maxRecDepth 100000 in
theorem rmake_in (y m d : Int) (w : World) (y1 : 1800 ≤ y) (y2 : y ≤ 2073) (m1 : 1 ≤ m) (m2 : m ≤ 12) (d1 : 1 ≤ d) (d2 : d ≤ len y m) :
    Calls Tryd.prog 57 #[.int .i64 y, .int .i64 m, .int .i64 d] w fun e w' => e = .returned (.tuple #[.int .i64 (mkV y m d), .int .i64 (mkE y m d)]) ∧ w = w' := by
  have HL := Lib.hid (fun k (k1 : 1 ≤ k) (k2 : k ≤ 12) => rlength_any y k w (by omega) (by omega) k1 k2)
  have hf := first_any y w y1 (by omega)
  have ⟨f1, f2⟩ := num_first_bd y y1 (by omega)
  have hl := len_bd y m m1 m2
  have d3 : d ≤ 31 := by omega
  have HB := Lib.hid (fun k => num_bd2 y k d y1 (by omega) d1 d3)
  have HS := Lib.hid (fun k => num_step y k d)
  have HD := Lib.hid (num_day y 1 d)
  have HE : Hid ((num y m d ≤ 100000 → mkE y m d = 0 ∧ mkV y m d = num y m d) ∧ (100000 < num y m d → mkE y m d = 9 ∧ mkV y m d = 0)) := by
    refine ⟨fun h => mk_mk y m d y1 y2 m1 m2 d1 d2 h, fun h => ?_⟩
    have hE : mkE y m d = 9 := by
      unfold mkE okY okD okN
      rw [if_neg (by simp; omega), if_neg (by simp; omega), if_pos (by simp; omega)]
    exact ⟨hE, by simp [mkV, hE]⟩
  have LB := Lib.hid (fun k (k1 : 1 ≤ k) (k2 : k ≤ 12) => len_bd y k k1 k2)
  have hl1 := HL.out m m1 m2
  obtain ⟨L, hLn⟩ : ∃ L, len y m = L := ⟨_, rfl⟩
  rw [hLn] at hl1 d2 hl
  clear hLn
  go_enter Tryd.func57, Tryd.ntmps57
  go_wp2_with fail
  refine hl1.mono ?_
  rintro e w' ⟨rfl, rfl⟩
  go_wp2_with fail
  refine hf.mono ?_
  rintro e w' ⟨rfl, rfl⟩
  clear hf hl1
  obtain ⟨N, hN⟩ : ∃ N, num y 1 1 = N := ⟨_, rfl⟩
  rw [hN] at f1 f2 HD ⊢
  clear hN
  go_wp2_with fail
  go_loop [8, 9] (fun n k => ∃ j : Int, 1 ≤ j ∧ j ≤ m ∧ n = .int .i64 (num y j d) ∧ k = .int .i64 j) (fun _ k => (m - intOf k).toNat)
  case atStart => exact ⟨1, by omega, m1, by rw [HD.out], rfl⟩
  case round =>
    obtain ⟨k, k1, k2, rfl, rfl⟩ := hrel
    by_cases hk : k < m
    · have hl1 := HL.out k k1 (by omega)
      have ⟨b1, b2⟩ := HB.out k
      have ⟨c1, c2⟩ := LB.out k k1 (by omega)
      have hs := HS.out k k1 (by omega)
      obtain ⟨L2, hLn⟩ : ∃ L2, len y k = L2 := ⟨_, rfl⟩
      rw [hLn] at hl1 hs c1 c2
      have hs2 := Lib.hid hs
      clear hs hLn
      obtain ⟨N2, hN2⟩ : ∃ N, num y k d = N := ⟨_, rfl⟩
      rw [hN2] at b1 b2 hs2 ⊢
      clear hN2
      go_wp2_with fail
      refine hl1.mono ?_
      rintro e w' ⟨rfl, rfl⟩
      go_wp2_with fail
      refine ⟨⟨k + 1, by omega, by omega, ?_, rfl⟩, ?_⟩
      · rw [hs2.out]
      · simp only [intOf]; omega
    · have e : k = m := by omega
      subst e
      have ⟨b1, b2⟩ := HB.out k
      obtain ⟨N2, hN2⟩ : ∃ N, num y k d = N := ⟨_, rfl⟩
      rw [hN2] at b1 b2 HE ⊢
      clear hN2
      by_cases c : N2 ≤ 100000
      · have HE2 := Lib.hid (HE.out.1 c)
        go_wp2_with fail
        go_ret2
        exact ⟨by rw [HE2.out.1, HE2.out.2]; rfl, rfl⟩
      · have HE2 := Lib.hid (HE.out.2 (by omega))
        go_wp2_with fail
        go_ret2
        exact ⟨by rw [HE2.out.1, HE2.out.2]; rfl, rfl⟩
set_option maxHeartbeats 2000000 in
theorem rmake_any (y m d : Int) (w : World) :
    Calls Tryd.prog 57 #[.int .i64 y, .int .i64 m, .int .i64 d] w fun e w' => e = .returned (.tuple #[.int .i64 (mkV y m d), .int .i64 (mkE y m d)]) ∧ w = w' := by
  by_cases hy : 1800 ≤ y ∧ y ≤ 2073
  · obtain ⟨y1, y2⟩ := hy
    by_cases hd : 1 ≤ m ∧ m ≤ 12 ∧ 1 ≤ d ∧ d ≤ len y m
    · obtain ⟨m1, m2, d1, d2⟩ := hd
      exact rmake_in y m d w y1 y2 m1 m2 d1 d2
    · have hE : mkE y m d = 1 := by unfold mkE okY okD; rw [if_neg (by simp; omega), if_pos (by simpa using hd)]
      have HE := Lib.hid hE
      have HV := Lib.hid (show mkV y m d = 0 by simp [mkV, hE])
      clear hE
      by_cases m1 : 1 ≤ m
      · by_cases m2 : m ≤ 12
        · by_cases d1 : 1 ≤ d
          · have d2 : len y m < d := by omega
            have hl := len_bd y m m1 m2
            clear hd
            go_enter Tryd.func57, Tryd.ntmps57
            go_wp2_with fail
            refine (rlength_any _ _ _ (by omega) (by omega) m1 m2).mono ?_
            rintro e w' ⟨rfl, rfl⟩
            go_wp2_with fail
            go_ret2
            exact ⟨by rw [HE.out, HV.out]; rfl, rfl⟩
          · clear hd
            go_enter Tryd.func57, Tryd.ntmps57
            go_wp2_with fail
            go_ret2
            exact ⟨by rw [HE.out, HV.out]; rfl, rfl⟩
        · clear hd
          go_enter Tryd.func57, Tryd.ntmps57
          go_wp2_with fail
          go_ret2
          exact ⟨by rw [HE.out, HV.out]; rfl, rfl⟩
      · clear hd
        go_enter Tryd.func57, Tryd.ntmps57
        go_wp2_with fail
        go_ret2
        exact ⟨by rw [HE.out, HV.out]; rfl, rfl⟩
  · have hE : mkE y m d = 9 := by unfold mkE okY; rw [if_pos (by simpa using hy)]
    have HE := Lib.hid hE
    have HV := Lib.hid (show mkV y m d = 0 by simp [mkV, hE])
    clear hE
    by_cases y1 : 1800 ≤ y
    · have y2 : 2073 < y := by omega
      clear hy
      go_enter Tryd.func57, Tryd.ntmps57
      go_wp2_with fail
      go_ret2
      exact ⟨by rw [HE.out, HV.out]; rfl, rfl⟩
    · have y2 : y < 1800 := by omega
      clear hy
      go_enter Tryd.func57, Tryd.ntmps57
      go_wp2_with fail
      go_ret2
      exact ⟨by rw [HE.out, HV.out]; rfl, rfl⟩

set_option maxHeartbeats 400000 in
theorem ris_yes (n : Int) (w : World) (h0 : 0 ≤ n) (h1 : n ≤ 100000) :
    Calls Tryd.prog 32 #[.int .i64 n] w fun e w' => e = .returned (.bool true) ∧ w = w' := by
  go_enter Tryd.func32, Tryd.ntmps32
  go_wp2
  go_ret
  exact ⟨rfl, rfl⟩
set_option maxHeartbeats 400000 in
theorem ris_no (n : Int) (w : World) (h : n < 0 ∨ 100000 < n) :
    Calls Tryd.prog 32 #[.int .i64 n] w fun e w' => e = .returned (.bool false) ∧ w = w' := by
  rcases h with h | h
  · go_enter Tryd.func32, Tryd.ntmps32
    go_wp2
    go_ret
    exact ⟨rfl, rfl⟩
  · have h0 : 0 ≤ n := by omega
    have hb : decide (n ≤ 100000) = false := by simp; omega
    go_enter Tryd.func32, Tryd.ntmps32
    go_wp2
    go_ret
    exact ⟨rfl, rfl⟩
set_option maxHeartbeats 400000 in
theorem rsplit_no (n : Int) (w : World) (h : n < 0 ∨ 100000 < n) :
    Calls Tryd.prog 51 #[.int .i64 n] w fun e w' => e = .returned (.tuple #[.int .i64 0, .int .i64 0, .int .i64 0, .int .i64 1]) ∧ w = w' := by
  go_enter Tryd.func51, Tryd.ntmps51
  go_wp2_with fail
  refine (ris_no _ _ h).mono ?_
  rintro e w' ⟨rfl, rfl⟩
  go_wp2_with fail
  exact bodyPost_ret (v := .tuple #[.int .i64 0, .int .i64 0, .int .i64 0, .int .i64 1]) (by simp [results, Tryd.results51, go_sem]) rfl ⟨rfl, rfl⟩

theorem num_yr_mono (a b : Int) (h : a ≤ b) : num a 1 1 ≤ num b 1 1 := by
  rw [num_eq, num_eq]
  have e1 : yr a 1 = a - 1 := by unfold yr; simp
  have e2 : yr b 1 = b - 1 := by unfold yr; simp
  have := dy_mono (a - 1) (b - 1) (by omega)
  rw [e1, e2]; omega
theorem num_mo_mono (y a : Int) (k : Nat) (h1 : 1 ≤ a) (h2 : a + k ≤ 12) : num y a 1 ≤ num y (a + k) 1 := by
  induction k with
  | zero => simp
  | succ k ih =>
    have := ih (by omega)
    have hs := num_step y (a + k) 1 (by omega) (by omega)
    have hl := len_bd y (a + k) (by omega) (by omega)
    have e : a + ((k + 1 : Nat) : Int) = a + k + 1 := by omega
    rw [e, hs]; omega
/-- where a year's loop ends -/
theorem yr_end (n k : Int) : (k < spY n → num (k + 1) 1 1 ≤ n) ∧ (k = spY n → n < num (k + 1) 1 1) ∧ (k = spY n → num k 1 1 ≤ n) := by
  obtain ⟨a1, a2, a3, a4, a5⟩ := split_ok n
  refine ⟨fun h => ?_, fun h => ?_, fun h => ?_⟩
  · have h1 := num_yr_mono (k + 1) (spY n) (by omega)
    have h2 := num_ge (spY n) (spM n) (spD n) a1 a2 a3
    omega
  · subst h
    have h1 := num_year (spY n)
    rw [h1]
    obtain ⟨j, hj⟩ : ∃ j : Nat, (12 : Int) = spM n + j := ⟨(12 - spM n).toNat, by omega⟩
    have h2 := num_mo_mono (spY n) (spM n) j a1 (by omega)
    rw [← hj] at h2
    have h3 := num_day (spY n) 12 (len (spY n) 12)
    have h4 := num_day (spY n) (spM n) (spD n)
    by_cases e : spM n = 12
    · rw [e] at a4 a5 h4; omega
    · have h5 := num_step (spY n) (spM n) 1 a1 (by omega)
      obtain ⟨j, hj⟩ : ∃ j : Nat, (12 : Int) = spM n + 1 + j := ⟨(12 - (spM n + 1)).toNat, by omega⟩
      have h6 := num_mo_mono (spY n) (spM n + 1) j (by omega) (by omega)
      rw [← hj] at h6
      have h7 := len_bd (spY n) 12 (by omega) (by omega)
      omega
  · subst h
    have h2 := num_ge (spY n) (spM n) (spD n) a1 a2 a3
    omega
/-- where a month's loop ends -/
theorem mo_end (n k : Int) (k1 : 1 ≤ k) : (k < spM n → len (spY n) k ≤ n - num (spY n) k 1) ∧ (k = spM n → n - num (spY n) k 1 < len (spY n) k ∧ n - num (spY n) k 1 + 1 = spD n) ∧ (k ≤ spM n → num (spY n) k 1 ≤ n) := by
  obtain ⟨a1, a2, a3, a4, a5⟩ := split_ok n
  have h4 := num_day (spY n) (spM n) (spD n)
  refine ⟨fun h => ?_, fun h => ?_, fun h => ?_⟩
  · have h5 := num_step (spY n) k 1 k1 (by omega)
    obtain ⟨j, hj⟩ : ∃ j : Nat, spM n = k + 1 + j := ⟨(spM n - (k + 1)).toNat, by omega⟩
    have h6 := num_mo_mono (spY n) (k + 1) j (by omega) (by omega)
    rw [← hj] at h6
    omega
  · subst h; omega
  · obtain ⟨j, hj⟩ : ∃ j : Nat, spM n = k + j := ⟨(spM n - k).toNat, by omega⟩
    have h6 := num_mo_mono (spY n) k j k1 (by omega)
    rw [← hj] at h6
    omega

set_option maxHeartbeats 4000000 in
set_option maxRecDepth 100000 in
theorem rsplit_yes (n : Int) (w : World) (h0 : 0 ≤ n) (h1 : n ≤ 100000) :
    Calls Tryd.prog 51 #[.int .i64 n] w fun e w' => e = .returned (.tuple #[.int .i64 (spY n), .int .i64 (spM n), .int .i64 (spD n), .int .i64 0]) ∧ w = w' := by
  have ⟨y1, y2⟩ := split_yr n h0 h1
  have ⟨m1, m2, _, _, _⟩ := split_ok n
  have YE := Lib.hid (yr_end n)
  have ME := Lib.hid (mo_end n)
  have LB := Lib.hid (fun k => len_bd (spY n) k)
  obtain ⟨Y, hY⟩ : ∃ Y, spY n = Y := ⟨_, rfl⟩
  obtain ⟨M, hM⟩ : ∃ M, spM n = M := ⟨_, rfl⟩
  obtain ⟨D, hD⟩ : ∃ D, spD n = D := ⟨_, rfl⟩
  rw [hY, hM, hD]
  rw [hY] at y1 y2 YE ME LB
  rw [hM] at m1 m2 ME
  rw [hD] at ME
  clear hY hM hD
  have FA := Lib.hid (fun k (a : 1800 ≤ k) (b : k ≤ 2100) => first_any k w a b)
  have FB := Lib.hid num_first_bd
  go_enter Tryd.func51, Tryd.ntmps51
  go_wp2_with fail
  refine (ris_yes _ _ h0 h1).mono ?_
  rintro e w' ⟨rfl, rfl⟩
  go_wp2_with fail
  go_loop [6] (fun y => ∃ k : Int, 1800 ≤ k ∧ k ≤ Y ∧ y = .int .i64 k) (fun y => (Y - intOf y).toNat)
  case atStart => exact ⟨1800, by omega, y1, rfl⟩
  case round =>
    obtain ⟨k, k1, k2, rfl⟩ := hrel
    have hf := FA.out (k + 1) (by omega) (by omega)
    have ⟨b1, b2⟩ := FB.out (k + 1) (by omega) (by omega)
    have ⟨c1, c2, c3⟩ := YE.out k
    obtain ⟨N, hN⟩ : ∃ N, num (k + 1) 1 1 = N := ⟨_, rfl⟩
    rw [hN] at hf b1 b2 c1 c2
    clear hN
    by_cases hk : k < Y
    · have hle := c1 hk
      clear c1 c2 c3
      go_wp2_with fail
      refine hf.mono ?_
      rintro e w' ⟨rfl, rfl⟩
      go_wp2_with fail
      refine ⟨⟨k + 1, by omega, by omega, rfl⟩, ?_⟩
      simp only [intOf]; omega
    · have e : k = Y := by omega
      subst e
      have hlt := c2 rfl
      clear c1 c2 c3
      go_wp2_with fail
      refine hf.mono ?_
      rintro e w' ⟨rfl, rfl⟩
      clear hf
      have hf := FA.out k (by omega) (by omega)
      have ⟨b1, b2⟩ := FB.out k (by omega) (by omega)
      go_wp2_with fail
      refine hf.mono ?_
      rintro e w' ⟨rfl, rfl⟩
      clear hf
      go_wp2_with fail
      go_loop [7, 8] (fun r m => ∃ j : Int, 1 ≤ j ∧ j ≤ M ∧ r = .int .i64 (n - num k j 1) ∧ m = .int .i64 j) (fun _ m => (M - intOf m).toNat)
      case atStart => exact ⟨1, by omega, m1, rfl, rfl⟩
      case round =>
        obtain ⟨j, j1, j2, rfl, rfl⟩ := hrel
        have hl := rlength_any k j w (by omega) (by omega) j1 (by omega)
        have ⟨l1, l2⟩ := LB.out j j1 (by omega)
        have ⟨c1, c2, c3⟩ := ME.out j j1
        have HS := Lib.hid (num_step k j 1 j1)
        have c4 := c3 j2
        have BD := num_bd2 k j 1 (by omega) (by omega) (by omega) (by omega)
        obtain ⟨L, hL⟩ : ∃ L, len k j = L := ⟨_, rfl⟩
        obtain ⟨N2, hN2⟩ : ∃ N, num k j 1 = N := ⟨_, rfl⟩
        rw [hL] at hl l1 l2 c1 c2 HS
        rw [hN2] at c1 c2 c4 HS BD ⊢
        clear hL hN2 c3
        obtain ⟨BD1, BD2⟩ := BD
        by_cases hj : j < M
        · have hle := c1 hj
          clear c1 c2
          go_wp2_with fail
          refine hl.mono ?_
          rintro e w' ⟨rfl, rfl⟩
          go_wp2_with fail
          refine hl.mono ?_
          rintro e w' ⟨rfl, rfl⟩
          go_wp2_with fail
          refine ⟨⟨j + 1, by omega, by omega, ?_, rfl⟩, ?_⟩
          · rw [HS.out (by omega)]; congr 1; omega
          · simp only [intOf]; omega
        · have e : j = M := by omega
          subst e
          obtain ⟨hlt, hd⟩ := c2 rfl
          have HD := Lib.hid hd
          clear c1 c2 hd
          go_wp2_with fail
          refine hl.mono ?_
          rintro e w' ⟨rfl, rfl⟩
          go_wp2_with fail
          refine bodyPost_ret (v := .tuple #[.int .i64 k, .int .i64 j, .int .i64 D, .int .i64 0]) ?_ rfl ⟨rfl, rfl⟩
          rw [← HD.out]
          simp [results, Tryd.results51, go_sem]
end Go.Proofs.YtngbkdnkpolbfaaDoor
