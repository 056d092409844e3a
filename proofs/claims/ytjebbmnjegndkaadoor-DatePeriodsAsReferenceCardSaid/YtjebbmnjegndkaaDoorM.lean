/- The walks of the laws DateBack and DateWeeks. Under the condition that the tables lie in memory as the program lays them. -/
import Derived.Test.YtjebbmnjegndkaaDoorK
import Derived.Test.YtjebbmnjegndkaaDoorPlainC
namespace Go.Proofs.YtjebbmnjegndkaaDoor
open Go.RowKit

set_option maxHeartbeats 2000000 in
set_option maxRecDepth 100000 in
theorem back_bad (n y m d E : Int) (w : World) (hL : Laid w) (hE : mkE y m d = E) (hV : mkV y m d = 0) (hne : (E != 0) = true) : Calls Tryd.prog 4 #[.int .i64 n, .int .i64 y, .int .i64 m, .int .i64 d] w (Yes w) := by
  have C1 := Lib.hid (fun W hT => mk_at hV hE W hT)
  have HL := Lib.hid hL
  clear hE hV hL
  by_cases h : 0 ≤ n ∧ n ≤ 100000
  · obtain ⟨h0, h1⟩ := h
    obtain ⟨e1, e2⟩ := mk_split n h0 h1
    have C2 := Lib.hid (fun W => split_yes n W h0 h1)
    have C3 := Lib.hid (fun W hT => mk_at e2 e1 W hT)
    generalize spY n = sy at *
    generalize spM n = sm at *
    generalize spD n = sd at *
    clear e1 e2
    go_enter Tryd.func4, Tryd.ntmps4
    go_wp2_with fail
    refine (head_any _ HL.out).mono ?_
    rintro e w1 ⟨rfl, hb1⟩
    have HK := Lib.hid (HL.out.keep hb1)
    go_wp2_with fail
    refine (C2.out _).mono ?_
    rintro e w' ⟨rfl, rfl⟩
    go_wp2_with fail
    refine (C3.out _ HK.out.1).mono ?_
    rintro e w' ⟨rfl, rfl⟩
    go_wp2_with fail
    refine (C1.out _ HK.out.1).mono ?_
    rintro e w' ⟨rfl, rfl⟩
    go_wp2_with fail
    go_ret
    exact ⟨rfl, hb1⟩
  · go_enter Tryd.func4, Tryd.ntmps4
    go_wp2_with fail
    refine (head_any _ HL.out).mono ?_
    rintro e w1 ⟨rfl, hb1⟩
    have HK := Lib.hid (HL.out.keep hb1)
    go_wp2_with fail
    refine (split_no n _ (by omega)).mono ?_
    rintro e w' ⟨rfl, rfl⟩
    go_wp2_with fail
    refine (C1.out _ HK.out.1).mono ?_
    rintro e w' ⟨rfl, rfl⟩
    go_wp2_with fail
    go_ret
    exact ⟨rfl, hb1⟩

set_option maxHeartbeats 2000000 in
set_option maxRecDepth 100000 in
theorem back_good (n y m d : Int) (w : World) (hL : Laid w) (hE : mkE y m d = 0) : Calls Tryd.prog 4 #[.int .i64 n, .int .i64 y, .int .i64 m, .int .i64 d] w (Yes w) := by
  obtain ⟨v1, _, _, m1, m2, d1, d2, n1, n2⟩ := mk_ok y m d hE
  obtain ⟨f1, f2, f3⟩ := mk_first y m d hE
  obtain ⟨s1, s2, s3⟩ := split_num y m d m1 m2 d1 d2
  have C1 := Lib.hid (fun W hT => mk_at v1 hE W hT)
  have C4 := Lib.hid (fun W hT => mk_at f2 f1 W hT)
  have C5 := Lib.hid (fun W => sp_at n1 n2 s1 s2 s3 W)
  have HL := Lib.hid hL
  generalize num y m d = N at *
  generalize num y 1 1 = N1 at *
  clear hE v1 f1 f2 s1 s2 s3 hL
  by_cases h : 0 ≤ n ∧ n ≤ 100000
  · obtain ⟨h0, h1⟩ := h
    obtain ⟨e1, e2⟩ := mk_split n h0 h1
    have C2 := Lib.hid (fun W => split_yes n W h0 h1)
    have C3 := Lib.hid (fun W hT => mk_at e2 e1 W hT)
    generalize spY n = sy at *
    generalize spM n = sm at *
    generalize spD n = sd at *
    clear e1 e2
    go_enter Tryd.func4, Tryd.ntmps4
    go_wp2_with fail
    refine (head_any _ HL.out).mono ?_
    rintro e w1 ⟨rfl, hb1⟩
    have HK := Lib.hid (HL.out.keep hb1)
    go_wp2_with fail
    refine (C2.out _).mono ?_
    rintro e w' ⟨rfl, rfl⟩
    go_wp2_with fail
    refine (C3.out _ HK.out.1).mono ?_
    rintro e w' ⟨rfl, rfl⟩
    go_wp2_with fail
    refine (C1.out _ HK.out.1).mono ?_
    rintro e w' ⟨rfl, rfl⟩
    go_wp2_with fail
    refine (C5.out _).mono ?_
    rintro e w' ⟨rfl, rfl⟩
    go_wp2_with fail
    refine (C4.out _ HK.out.1).mono ?_
    rintro e w' ⟨rfl, rfl⟩
    go_wp2_with fail
    go_ret
    exact ⟨rfl, hb1⟩
  · go_enter Tryd.func4, Tryd.ntmps4
    go_wp2_with fail
    refine (head_any _ HL.out).mono ?_
    rintro e w1 ⟨rfl, hb1⟩
    have HK := Lib.hid (HL.out.keep hb1)
    go_wp2_with fail
    refine (split_no n _ (by omega)).mono ?_
    rintro e w' ⟨rfl, rfl⟩
    go_wp2_with fail
    refine (C1.out _ HK.out.1).mono ?_
    rintro e w' ⟨rfl, rfl⟩
    go_wp2_with fail
    refine (C5.out _).mono ?_
    rintro e w' ⟨rfl, rfl⟩
    go_wp2_with fail
    refine (C4.out _ HK.out.1).mono ?_
    rintro e w' ⟨rfl, rfl⟩
    go_wp2_with fail
    go_ret
    exact ⟨rfl, hb1⟩
theorem back_walk (n y m d : Int) (w : World) (hL : Laid w) : Calls Tryd.prog 4 #[.int .i64 n, .int .i64 y, .int .i64 m, .int .i64 d] w (Yes w) := by
  by_cases h : mkE y m d = 0
  · exact back_good n y m d w hL h
  · exact back_bad n y m d _ w hL rfl (mk_no y m d h).1 (by simpa using h)

set_option maxHeartbeats 2000000 in
set_option maxRecDepth 100000 in
theorem weeks_walk (a b : Int) (w : World) (hL : Laid w) : Calls Tryd.prog 5 #[.int .i64 a, .int .i64 b] w (Yes w) := by
  by_cases ha : 0 ≤ a ∧ a ≤ 100000
  · obtain ⟨a0, a1⟩ := ha
    by_cases hb : 0 ≤ b ∧ b ≤ 100000
    · obtain ⟨b0, b1⟩ := hb
      by_cases c : b < a
      · go_enter Tryd.func5, Tryd.ntmps5
        go_wp2_with fail
        refine (head_any _ hL).mono ?_
        rintro e w1 ⟨rfl, hb1⟩
        go_wp2_with fail
        refine (week_yes _ _ a0 a1).mono ?_
        rintro e w' ⟨rfl, rfl⟩
        go_wp2_with fail
        refine (week_yes _ _ b0 b1).mono ?_
        rintro e w' ⟨rfl, rfl⟩
        go_wp2_with fail
        go_ret
        exact ⟨rfl, hb1⟩
      · have hq : ((a + 2 + (b - a)) % 7 == (b + 2) % 7) = true := by simp only [beq_iff_eq]; omega
        have hc : decide (b < a) = false := by simp; omega
        have hba : 0 ≤ b - a := by omega
        go_enter Tryd.func5, Tryd.ntmps5
        go_wp2_with fail
        refine (head_any _ hL).mono ?_
        rintro e w1 ⟨rfl, hb1⟩
        go_wp2_with fail
        refine (week_yes _ _ a0 a1).mono ?_
        rintro e w' ⟨rfl, rfl⟩
        go_wp2_with fail
        refine (week_yes _ _ b0 b1).mono ?_
        rintro e w' ⟨rfl, rfl⟩
        go_wp2_with fail
        go_ret
        exact ⟨rfl, hb1⟩
    · go_enter Tryd.func5, Tryd.ntmps5
      go_wp2_with fail
      refine (head_any _ hL).mono ?_
      rintro e w1 ⟨rfl, hb1⟩
      go_wp2_with fail
      refine (week_yes _ _ a0 a1).mono ?_
      rintro e w' ⟨rfl, rfl⟩
      go_wp2_with fail
      refine (week_no b _ (by omega)).mono ?_
      rintro e w' ⟨rfl, rfl⟩
      go_wp2_with fail
      go_ret
      exact ⟨rfl, hb1⟩
  · by_cases hb : 0 ≤ b ∧ b ≤ 100000
    · obtain ⟨b0, b1⟩ := hb
      go_enter Tryd.func5, Tryd.ntmps5
      go_wp2_with fail
      refine (head_any _ hL).mono ?_
      rintro e w1 ⟨rfl, hb1⟩
      go_wp2_with fail
      refine (week_no a _ (by omega)).mono ?_
      rintro e w' ⟨rfl, rfl⟩
      go_wp2_with fail
      refine (week_yes _ _ b0 b1).mono ?_
      rintro e w' ⟨rfl, rfl⟩
      go_wp2_with fail
      go_ret
      exact ⟨rfl, hb1⟩
    · go_enter Tryd.func5, Tryd.ntmps5
      go_wp2_with fail
      refine (head_any _ hL).mono ?_
      rintro e w1 ⟨rfl, hb1⟩
      go_wp2_with fail
      refine (week_no a _ (by omega)).mono ?_
      rintro e w' ⟨rfl, rfl⟩
      go_wp2_with fail
      refine (week_no b _ (by omega)).mono ?_
      rintro e w' ⟨rfl, rfl⟩
      go_wp2_with fail
      go_ret
      exact ⟨rfl, hb1⟩
end Go.Proofs.YtjebbmnjegndkaaDoor
