/- The contracts of the reference's first, Make. Under no condition. -/
import Derived.Test.YtjebbmnjegndkaaGreatDoorC
import Derived.Test.YtjebbmnjegndkaaGreatDoorPlainC
namespace Go.Proofs.YtjebbmnjegndkaaGreatDoor
open Go.RowKit
theorem num_next (y : Int) : num (y + 1) 1 1 = num y 1 1 + if lp y = true then 366 else 365 := by
  have h := dy_succ (y - 1)
  rw [show y - 1 + 1 = y by omega] at h
  rw [num_eq, num_eq]
  have e1 : yr (y + 1) 1 = y := by unfold yr; simp
  have e2 : yr y 1 = y - 1 := by unfold yr; simp
  rw [e1, e2, h]
  omega
theorem num_first_bd (y : Int) (h1 : 1800 ≤ y) (h2 : y ≤ 2100) : 0 ≤ num y 1 1 ∧ num y 1 1 ≤ 1000000 := by
  refine ⟨num_low y h1, ?_⟩
  unfold num dy dm; split <;> omega
set_option maxHeartbeats 2000000 in
set_option maxRecDepth 100000 in
theorem first_any (Y : Int) (w : World) (h1 : 1800 ≤ Y) (h2 : Y ≤ 2100) :
    Calls Tryz.prog 22 #[.int .i64 Y] w fun e w' => e = .returned (.int .i64 (num Y 1 1)) ∧ w = w' := by
  go_enter Tryz.func22, Tryz.ntmps22
  go_wp2_with fail
  go_loop [3, 4] (fun n y => ∃ k : Int, 1800 ≤ k ∧ k ≤ Y ∧ n = .int .i64 (num k 1 1) ∧ y = .int .i64 k) (fun _ y => (Y - intOf y).toNat)
  case atStart => exact ⟨1800, by omega, h1, by rw [show num 1800 1 1 = 0 by decide +kernel], rfl⟩
  case round =>
    obtain ⟨k, k1, k2, rfl, rfl⟩ := hrel
    have hn := Lib.hid (num_next k)
    have ⟨b1, b2⟩ := num_first_bd k k1 (by omega)
    have hp := leap_any k w (by omega) (by omega)
    obtain ⟨N, HN⟩ : ∃ N, num k 1 1 = N := ⟨_, rfl⟩
    rw [HN] at b1 b2 hn ⊢
    have HM := Lib.hid HN
    clear HN
    by_cases hk : k < Y
    · cases hl : lp k with
      | true =>
        rw [hl] at hp hn
        go_wp2_with fail
        refine hp.mono ?_
        rintro e w' ⟨rfl, rfl⟩
        go_wp2_with fail
        refine ⟨⟨k + 1, by omega, by omega, ?_, rfl⟩, ?_⟩
        · rw [hn.out, if_pos trivial, Int.add_assoc]; rfl
        · simp only [intOf]; omega
      | false =>
        rw [hl] at hp hn
        go_wp2_with fail
        refine hp.mono ?_
        rintro e w' ⟨rfl, rfl⟩
        go_wp2_with fail
        refine ⟨⟨k + 1, by omega, by omega, ?_, rfl⟩, ?_⟩
        · rw [hn.out, if_neg (by simp)]
        · simp only [intOf]; omega
    · have e : k = Y := by omega
      subst e
      go_wp2_with fail
      go_ret
      exact ⟨by rw [HM.out]; rfl, rfl⟩
end Go.Proofs.YtjebbmnjegndkaaGreatDoor
