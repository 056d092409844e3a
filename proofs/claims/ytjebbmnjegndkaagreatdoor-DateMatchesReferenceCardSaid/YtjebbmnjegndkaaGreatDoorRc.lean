/- The contracts of the reference's Is, Split, Weekday. Under no condition. -/
import Derived.Test.YtjebbmnjegndkaaGreatDoorRb
namespace Go.Proofs.YtjebbmnjegndkaaGreatDoor
open Go.RowKit
set_option maxHeartbeats 400000 in
theorem ris_yes (n : Int) (w : World) (h0 : 0 ≤ n) (h1 : n ≤ 100000) :
    Calls Tryz.prog 23 #[.int .i64 n] w fun e w' => e = .returned (.bool true) ∧ w = w' := by
  go_enter Tryz.func23, Tryz.ntmps23
  go_wp2
  go_ret
  exact ⟨rfl, rfl⟩
set_option maxHeartbeats 400000 in
theorem ris_no (n : Int) (w : World) (h : n < 0 ∨ 100000 < n) :
    Calls Tryz.prog 23 #[.int .i64 n] w fun e w' => e = .returned (.bool false) ∧ w = w' := by
  rcases h with h | h
  · go_enter Tryz.func23, Tryz.ntmps23
    go_wp2
    go_ret
    exact ⟨rfl, rfl⟩
  · have h0 : 0 ≤ n := by omega
    have hb : decide (n ≤ 100000) = false := by simp; omega
    go_enter Tryz.func23, Tryz.ntmps23
    go_wp2
    go_ret
    exact ⟨rfl, rfl⟩
set_option maxHeartbeats 400000 in
theorem rweek_yes (n : Int) (w : World) (h0 : 0 ≤ n) (h1 : n ≤ 100000) :
    Calls Tryz.prog 10 #[.int .i64 n] w fun e w' => e = .returned (.tuple #[.int .i64 ((n + 2) % 7), .int .i64 0]) ∧ w = w' := by
  go_enter Tryz.func10, Tryz.ntmps10
  go_wp2_with fail
  refine (ris_yes _ _ h0 h1).mono ?_
  rintro e w' ⟨rfl, rfl⟩
  go_wp2_with fail
  go_ret2
  exact ⟨rfl, rfl⟩
set_option maxHeartbeats 400000 in
theorem rweek_no (n : Int) (w : World) (h : n < 0 ∨ 100000 < n) :
    Calls Tryz.prog 10 #[.int .i64 n] w fun e w' => e = .returned (.tuple #[.int .i64 0, .int .i64 1]) ∧ w = w' := by
  go_enter Tryz.func10, Tryz.ntmps10
  go_wp2_with fail
  refine (ris_no _ _ h).mono ?_
  rintro e w' ⟨rfl, rfl⟩
  go_wp2_with fail
  go_ret2
  exact ⟨rfl, rfl⟩
set_option maxHeartbeats 400000 in
theorem rsplit_no (n : Int) (w : World) (h : n < 0 ∨ 100000 < n) :
    Calls Tryz.prog 8 #[.int .i64 n] w fun e w' => e = .returned (.tuple #[.int .i64 0, .int .i64 0, .int .i64 0, .int .i64 1]) ∧ w = w' := by
  go_enter Tryz.func8, Tryz.ntmps8
  go_wp2_with fail
  refine (ris_no _ _ h).mono ?_
  rintro e w' ⟨rfl, rfl⟩
  go_wp2_with fail
  exact bodyPost_ret (v := .tuple #[.int .i64 0, .int .i64 0, .int .i64 0, .int .i64 1]) (by simp [results, Tryz.results8, go_sem]) rfl ⟨rfl, rfl⟩

theorem num_yr_mono (a b : Int) (h : a ≤ b) : num a 1 1 ≤ num b 1 1 := by
  rw [num_eq, num_eq]
  have e1 : yr a 1 = a - 1 := by unfold yr; simp
  have e2 : yr b 1 = b - 1 := by unfold yr; simp
  have := dy_mono (a - 1) (b - 1) (by omega)
  rw [e1, e2]; omega
theorem num_mo_mono (y a : Int) (k : Nat) (h1 : 1 ≤ a) (h2 : a + k ≤ 12) : num y a 1 ≤ num y (a + k) 1 := by
  induction k with
  | zero => simp
  | succ k ih =>
    have := ih (by omega)
    have hs := num_step y (a + k) 1 (by omega) (by omega)
    have hl := len_bd y (a + k) (by omega) (by omega)
    have e : a + ((k + 1 : Nat) : Int) = a + k + 1 := by omega
    rw [e, hs]; omega
/-- where a year's loop ends -/
theorem yr_end (n k : Int) : (k < spY n → num (k + 1) 1 1 ≤ n) ∧ (k = spY n → n < num (k + 1) 1 1) ∧ (k = spY n → num k 1 1 ≤ n) := by
  obtain ⟨a1, a2, a3, a4, a5⟩ := split_ok n
  refine ⟨fun h => ?_, fun h => ?_, fun h => ?_⟩
  · have h1 := num_yr_mono (k + 1) (spY n) (by omega)
    have h2 := num_ge (spY n) (spM n) (spD n) a1 a2 a3
    omega
  · subst h
    have h1 := num_year (spY n)
    rw [h1]
    obtain ⟨j, hj⟩ : ∃ j : Nat, (12 : Int) = spM n + j := ⟨(12 - spM n).toNat, by omega⟩
    have h2 := num_mo_mono (spY n) (spM n) j a1 (by omega)
    rw [← hj] at h2
    have h3 := num_day (spY n) 12 (len (spY n) 12)
    have h4 := num_day (spY n) (spM n) (spD n)
    by_cases e : spM n = 12
    · rw [e] at a4 a5 h4; omega
    · have h5 := num_step (spY n) (spM n) 1 a1 (by omega)
      obtain ⟨j, hj⟩ : ∃ j : Nat, (12 : Int) = spM n + 1 + j := ⟨(12 - (spM n + 1)).toNat, by omega⟩
      have h6 := num_mo_mono (spY n) (spM n + 1) j (by omega) (by omega)
      rw [← hj] at h6
      have h7 := len_bd (spY n) 12 (by omega) (by omega)
      omega
  · subst h
    have h2 := num_ge (spY n) (spM n) (spD n) a1 a2 a3
    omega
/-- where a month's loop ends -/
theorem mo_end (n k : Int) (k1 : 1 ≤ k) : (k < spM n → len (spY n) k ≤ n - num (spY n) k 1) ∧ (k = spM n → n - num (spY n) k 1 < len (spY n) k ∧ n - num (spY n) k 1 + 1 = spD n) ∧ (k ≤ spM n → num (spY n) k 1 ≤ n) := by
  obtain ⟨a1, a2, a3, a4, a5⟩ := split_ok n
  have h4 := num_day (spY n) (spM n) (spD n)
  refine ⟨fun h => ?_, fun h => ?_, fun h => ?_⟩
  · have h5 := num_step (spY n) k 1 k1 (by omega)
    obtain ⟨j, hj⟩ : ∃ j : Nat, spM n = k + 1 + j := ⟨(spM n - (k + 1)).toNat, by omega⟩
    have h6 := num_mo_mono (spY n) (k + 1) j (by omega) (by omega)
    rw [← hj] at h6
    omega
  · subst h; omega
  · obtain ⟨j, hj⟩ : ∃ j : Nat, spM n = k + j := ⟨(spM n - k).toNat, by omega⟩
    have h6 := num_mo_mono (spY n) k j k1 (by omega)
    rw [← hj] at h6
    omega

set_option maxHeartbeats 4000000 in
set_option maxRecDepth 100000 in
theorem rsplit_yes (n : Int) (w : World) (h0 : 0 ≤ n) (h1 : n ≤ 100000) :
    Calls Tryz.prog 8 #[.int .i64 n] w fun e w' => e = .returned (.tuple #[.int .i64 (spY n), .int .i64 (spM n), .int .i64 (spD n), .int .i64 0]) ∧ w = w' := by
  have ⟨y1, y2⟩ := split_yr n h0 h1
  have ⟨m1, m2, _, _, _⟩ := split_ok n
  have YE := Lib.hid (yr_end n)
  have ME := Lib.hid (mo_end n)
  have LB := Lib.hid (fun k => len_bd (spY n) k)
  obtain ⟨Y, hY⟩ : ∃ Y, spY n = Y := ⟨_, rfl⟩
  obtain ⟨M, hM⟩ : ∃ M, spM n = M := ⟨_, rfl⟩
  obtain ⟨D, hD⟩ : ∃ D, spD n = D := ⟨_, rfl⟩
  rw [hY, hM, hD]
  rw [hY] at y1 y2 YE ME LB
  rw [hM] at m1 m2 ME
  rw [hD] at ME
  clear hY hM hD
  have FA := Lib.hid (fun k (a : 1800 ≤ k) (b : k ≤ 2100) => first_any k w a b)
  have FB := Lib.hid num_first_bd
  go_enter Tryz.func8, Tryz.ntmps8
  go_wp2_with fail
  refine (ris_yes _ _ h0 h1).mono ?_
  rintro e w' ⟨rfl, rfl⟩
  go_wp2_with fail
  go_loop [6] (fun y => ∃ k : Int, 1800 ≤ k ∧ k ≤ Y ∧ y = .int .i64 k) (fun y => (Y - intOf y).toNat)
  case atStart => exact ⟨1800, by omega, y1, rfl⟩
  case round =>
    obtain ⟨k, k1, k2, rfl⟩ := hrel
    have hf := FA.out (k + 1) (by omega) (by omega)
    have ⟨b1, b2⟩ := FB.out (k + 1) (by omega) (by omega)
    have ⟨c1, c2, c3⟩ := YE.out k
    obtain ⟨N, hN⟩ : ∃ N, num (k + 1) 1 1 = N := ⟨_, rfl⟩
    rw [hN] at hf b1 b2 c1 c2
    clear hN
    by_cases hk : k < Y
    · have hle := c1 hk
      clear c1 c2 c3
      go_wp2_with fail
      refine hf.mono ?_
      rintro e w' ⟨rfl, rfl⟩
      go_wp2_with fail
      refine ⟨⟨k + 1, by omega, by omega, rfl⟩, ?_⟩
      simp only [intOf]; omega
    · have e : k = Y := by omega
      subst e
      have hlt := c2 rfl
      clear c1 c2 c3
      go_wp2_with fail
      refine hf.mono ?_
      rintro e w' ⟨rfl, rfl⟩
      clear hf
      have hf := FA.out k (by omega) (by omega)
      have ⟨b1, b2⟩ := FB.out k (by omega) (by omega)
      go_wp2_with fail
      refine hf.mono ?_
      rintro e w' ⟨rfl, rfl⟩
      clear hf
      go_wp2_with fail
      go_loop [7, 8] (fun r m => ∃ j : Int, 1 ≤ j ∧ j ≤ M ∧ r = .int .i64 (n - num k j 1) ∧ m = .int .i64 j) (fun _ m => (M - intOf m).toNat)
      case atStart => exact ⟨1, by omega, m1, rfl, rfl⟩
      case round =>
        obtain ⟨j, j1, j2, rfl, rfl⟩ := hrel
        have hl := rlength_any k j w (by omega) (by omega) j1 (by omega)
        have ⟨l1, l2⟩ := LB.out j j1 (by omega)
        have ⟨c1, c2, c3⟩ := ME.out j j1
        have HS := Lib.hid (num_step k j 1 j1)
        have c4 := c3 j2
        have BD := num_bd2 k j 1 (by omega) (by omega) (by omega) (by omega)
        obtain ⟨L, hL⟩ : ∃ L, len k j = L := ⟨_, rfl⟩
        obtain ⟨N2, hN2⟩ : ∃ N, num k j 1 = N := ⟨_, rfl⟩
        rw [hL] at hl l1 l2 c1 c2 HS
        rw [hN2] at c1 c2 c4 HS BD ⊢
        clear hL hN2 c3
        obtain ⟨BD1, BD2⟩ := BD
        by_cases hj : j < M
        · have hle := c1 hj
          clear c1 c2
          go_wp2_with fail
          refine hl.mono ?_
          rintro e w' ⟨rfl, rfl⟩
          go_wp2_with fail
          refine hl.mono ?_
          rintro e w' ⟨rfl, rfl⟩
          go_wp2_with fail
          refine ⟨⟨j + 1, by omega, by omega, ?_, rfl⟩, ?_⟩
          · rw [HS.out (by omega)]; congr 1; omega
          · simp only [intOf]; omega
        · have e : j = M := by omega
          subst e
          obtain ⟨hlt, hd⟩ := c2 rfl
          have HD := Lib.hid hd
          clear c1 c2 hd
          go_wp2_with fail
          refine hl.mono ?_
          rintro e w' ⟨rfl, rfl⟩
          go_wp2_with fail
          refine bodyPost_ret (v := .tuple #[.int .i64 k, .int .i64 j, .int .i64 D, .int .i64 0]) ?_ rfl ⟨rfl, rfl⟩
          rw [← HD.out]
          simp [results, Tryz.results8, go_sem]
end Go.Proofs.YtjebbmnjegndkaaGreatDoor
