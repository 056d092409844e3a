/- The contract of the reference's Make. Under no condition. -/
import Derived.Test.YtjebbmnjegndkaaGreatDoorRa
namespace Go.Proofs.YtjebbmnjegndkaaGreatDoor
open Go.RowKit
theorem num_day (y m d : Int) : num y m d = num y m 1 + d - 1 := by unfold num; omega
theorem num_step (y k d : Int) (h1 : 1 ≤ k) (h2 : k < 12) : num y (k + 1) d = num y k d + len y k := by
  have h := num_month y k h1 h2
  rw [num_day y (k + 1) d, num_day y k d, h, num_day y k (len y k)]
  omega
theorem num_bd2 (y m d : Int) (y1 : 1800 ≤ y) (y2 : y ≤ 2100) (d1 : 1 ≤ d) (d2 : d ≤ 31) : -1000000 ≤ num y m d ∧ num y m d ≤ 1000000 := by
  unfold num dy dm; split <;> omega
set_option maxHeartbeats 2000000 in
set_option maxRecDepth 100000 in
theorem rmake_in (y m d : Int) (w : World) (y1 : 1800 ≤ y) (y2 : y ≤ 2073) (m1 : 1 ≤ m) (m2 : m ≤ 12) (d1 : 1 ≤ d) (d2 : d ≤ len y m) :
    Calls Tryz.prog 6 #[.int .i64 y, .int .i64 m, .int .i64 d] w fun e w' => e = .returned (.tuple #[.int .i64 (mkV y m d), .int .i64 (mkE y m d)]) ∧ w = w' := by
  have HL := Lib.hid (fun k (k1 : 1 ≤ k) (k2 : k ≤ 12) => rlength_any y k w (by omega) (by omega) k1 k2)
  have hf := first_any y w y1 (by omega)
  have ⟨f1, f2⟩ := num_first_bd y y1 (by omega)
  have hl := len_bd y m m1 m2
  have d3 : d ≤ 31 := by omega
  have HB := Lib.hid (fun k => num_bd2 y k d y1 (by omega) d1 d3)
  have HS := Lib.hid (fun k => num_step y k d)
  have HD := Lib.hid (num_day y 1 d)
  have HE : Hid ((num y m d ≤ 100000 → mkE y m d = 0 ∧ mkV y m d = num y m d) ∧ (100000 < num y m d → mkE y m d = 9 ∧ mkV y m d = 0)) := by
    refine ⟨fun h => mk_mk y m d y1 y2 m1 m2 d1 d2 h, fun h => ?_⟩
    have hE : mkE y m d = 9 := by
      unfold mkE okY okD okN
      rw [if_neg (by simp; omega), if_neg (by simp; omega), if_pos (by simp; omega)]
    exact ⟨hE, by simp [mkV, hE]⟩
  have LB := Lib.hid (fun k (k1 : 1 ≤ k) (k2 : k ≤ 12) => len_bd y k k1 k2)
  have hl1 := HL.out m m1 m2
  obtain ⟨L, hLn⟩ : ∃ L, len y m = L := ⟨_, rfl⟩
  rw [hLn] at hl1 d2 hl
  clear hLn
  go_enter Tryz.func6, Tryz.ntmps6
  go_wp2_with fail
  refine hl1.mono ?_
  rintro e w' ⟨rfl, rfl⟩
  go_wp2_with fail
  refine hf.mono ?_
  rintro e w' ⟨rfl, rfl⟩
  clear hf hl1
  obtain ⟨N, hN⟩ : ∃ N, num y 1 1 = N := ⟨_, rfl⟩
  rw [hN] at f1 f2 HD ⊢
  clear hN
  go_wp2_with fail
  go_loop [8, 9] (fun n k => ∃ j : Int, 1 ≤ j ∧ j ≤ m ∧ n = .int .i64 (num y j d) ∧ k = .int .i64 j) (fun _ k => (m - intOf k).toNat)
  case atStart => exact ⟨1, by omega, m1, by rw [HD.out], rfl⟩
  case round =>
    obtain ⟨k, k1, k2, rfl, rfl⟩ := hrel
    by_cases hk : k < m
    · have hl1 := HL.out k k1 (by omega)
      have ⟨b1, b2⟩ := HB.out k
      have ⟨c1, c2⟩ := LB.out k k1 (by omega)
      have hs := HS.out k k1 (by omega)
      obtain ⟨L2, hLn⟩ : ∃ L2, len y k = L2 := ⟨_, rfl⟩
      rw [hLn] at hl1 hs c1 c2
      have hs2 := Lib.hid hs
      clear hs hLn
      obtain ⟨N2, hN2⟩ : ∃ N, num y k d = N := ⟨_, rfl⟩
      rw [hN2] at b1 b2 hs2 ⊢
      clear hN2
      go_wp2_with fail
      refine hl1.mono ?_
      rintro e w' ⟨rfl, rfl⟩
      go_wp2_with fail
      refine ⟨⟨k + 1, by omega, by omega, ?_, rfl⟩, ?_⟩
      · rw [hs2.out]
      · simp only [intOf]; omega
    · have e : k = m := by omega
      subst e
      have ⟨b1, b2⟩ := HB.out k
      obtain ⟨N2, hN2⟩ : ∃ N, num y k d = N := ⟨_, rfl⟩
      rw [hN2] at b1 b2 HE ⊢
      clear hN2
      by_cases c : N2 ≤ 100000
      · have HE2 := Lib.hid (HE.out.1 c)
        go_wp2_with fail
        go_ret2
        exact ⟨by rw [HE2.out.1, HE2.out.2]; rfl, rfl⟩
      · have HE2 := Lib.hid (HE.out.2 (by omega))
        go_wp2_with fail
        go_ret2
        exact ⟨by rw [HE2.out.1, HE2.out.2]; rfl, rfl⟩
set_option maxHeartbeats 2000000 in
theorem rmake_any (y m d : Int) (w : World) :
    Calls Tryz.prog 6 #[.int .i64 y, .int .i64 m, .int .i64 d] w fun e w' => e = .returned (.tuple #[.int .i64 (mkV y m d), .int .i64 (mkE y m d)]) ∧ w = w' := by
  by_cases hy : 1800 ≤ y ∧ y ≤ 2073
  · obtain ⟨y1, y2⟩ := hy
    by_cases hd : 1 ≤ m ∧ m ≤ 12 ∧ 1 ≤ d ∧ d ≤ len y m
    · obtain ⟨m1, m2, d1, d2⟩ := hd
      exact rmake_in y m d w y1 y2 m1 m2 d1 d2
    · have hE : mkE y m d = 1 := by unfold mkE okY okD; rw [if_neg (by simp; omega), if_pos (by simpa using hd)]
      have HE := Lib.hid hE
      have HV := Lib.hid (show mkV y m d = 0 by simp [mkV, hE])
      clear hE
      by_cases m1 : 1 ≤ m
      · by_cases m2 : m ≤ 12
        · by_cases d1 : 1 ≤ d
          · have d2 : len y m < d := by omega
            have hl := len_bd y m m1 m2
            clear hd
            go_enter Tryz.func6, Tryz.ntmps6
            go_wp2_with fail
            refine (rlength_any _ _ _ (by omega) (by omega) m1 m2).mono ?_
            rintro e w' ⟨rfl, rfl⟩
            go_wp2_with fail
            go_ret2
            exact ⟨by rw [HE.out, HV.out]; rfl, rfl⟩
          · clear hd
            go_enter Tryz.func6, Tryz.ntmps6
            go_wp2_with fail
            go_ret2
            exact ⟨by rw [HE.out, HV.out]; rfl, rfl⟩
        · clear hd
          go_enter Tryz.func6, Tryz.ntmps6
          go_wp2_with fail
          go_ret2
          exact ⟨by rw [HE.out, HV.out]; rfl, rfl⟩
      · clear hd
        go_enter Tryz.func6, Tryz.ntmps6
        go_wp2_with fail
        go_ret2
        exact ⟨by rw [HE.out, HV.out]; rfl, rfl⟩
  · have hE : mkE y m d = 9 := by unfold mkE okY; rw [if_pos (by simpa using hy)]
    have HE := Lib.hid hE
    have HV := Lib.hid (show mkV y m d = 0 by simp [mkV, hE])
    clear hE
    by_cases y1 : 1800 ≤ y
    · have y2 : 2073 < y := by omega
      clear hy
      go_enter Tryz.func6, Tryz.ntmps6
      go_wp2_with fail
      go_ret2
      exact ⟨by rw [HE.out, HV.out]; rfl, rfl⟩
    · have y2 : y < 1800 := by omega
      clear hy
      go_enter Tryz.func6, Tryz.ntmps6
      go_wp2_with fail
      go_ret2
      exact ⟨by rw [HE.out, HV.out]; rfl, rfl⟩

end Go.Proofs.YtjebbmnjegndkaaGreatDoor
