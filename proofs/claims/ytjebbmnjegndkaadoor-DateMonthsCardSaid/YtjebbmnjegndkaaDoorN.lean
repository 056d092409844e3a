/- The walk of the law DateMonths. Under the condition that the tables lie in memory as the program lays them. -/
import Derived.Test.YtjebbmnjegndkaaDoorM
namespace Go.Proofs.YtjebbmnjegndkaaDoor
open Go.RowKit

set_option maxHeartbeats 2000000 in
set_option maxRecDepth 100000 in
theorem months_out (n a b : Int) (w : World) (hL : Laid w) (a1 : -32768 ≤ a) (a2 : a ≤ 32767) (h : n < 0 ∨ 100000 < n) : Calls Tryd.prog 6 #[.int .i64 n, .int .i16 a, .int .i16 b] w (Yes w) := by
  go_enter Tryd.func6, Tryd.ntmps6
  go_wp2_with fail
  refine (head_any _ hL).mono ?_
  rintro e w1 ⟨rfl, hb1⟩
  go_wp2_with fail
  refine (split_no n _ h).mono ?_
  rintro e w' ⟨rfl, rfl⟩
  go_wp2_with fail
  refine (months_no n _ _ h).mono ?_
  rintro e w' ⟨rfl, rfl⟩
  go_wp2_with fail
  go_ret
  exact ⟨rfl, hb1⟩

set_option maxHeartbeats 2000000 in
set_option maxRecDepth 100000 in
theorem months_err (n a b : Int) (w : World) (hL : Laid w) (a1 : -32768 ≤ a) (a2 : a ≤ 32767) (h0 : 0 ≤ n) (h1 : n ≤ 100000) (hE : moE n a ≠ 0) : Calls Tryd.prog 6 #[.int .i64 n, .int .i16 a, .int .i16 b] w (Yes w) := by
  have HL := Lib.hid hL
  clear hL
  obtain ⟨q1, q2⟩ := mo_eq n a h0 h1
  obtain ⟨m1, m2, d1, _, _⟩ := split_ok n
  have ⟨y1, y2⟩ := split_yr n h0 h1
  rw [q2] at hE
  obtain ⟨r1, r2, r3⟩ := mo_err _ _ d1 hE
  rw [← q2] at r1
  rw [← q1] at r2
  have C1 := Lib.hid (fun W => split_yes n W h0 h1)
  have C2 := Lib.hid (fun W hT => mo_at h0 h1 r2 r1 W hT)
  unfold mk at r3
  clear hE q1 q2 r1 r2
  generalize spY n = y at *
  generalize spM n = m at *
  generalize spD n = d at *
  rcases r3 with r3 | r3
  · go_enter Tryd.func6, Tryd.ntmps6
    go_wp2_with fail
    refine (head_any _ HL.out).mono ?_
    rintro e w1 ⟨rfl, hb1⟩
    have HK := Lib.hid (HL.out.keep hb1)
    go_wp2_with fail
    refine (C1.out _).mono ?_
    rintro e w' ⟨rfl, rfl⟩
    go_wp2_with fail
    refine (C2.out _ HK.out.1).mono ?_
    rintro e w' ⟨rfl, rfl⟩
    go_wp2_with fail
    go_ret
    exact ⟨rfl, hb1⟩
  · have r4 : decide (12 * y + m - 1 + a < 21600) = false := by simp; omega
    go_enter Tryd.func6, Tryd.ntmps6
    go_wp2_with fail
    refine (head_any _ HL.out).mono ?_
    rintro e w1 ⟨rfl, hb1⟩
    have HK := Lib.hid (HL.out.keep hb1)
    go_wp2_with fail
    refine (C1.out _).mono ?_
    rintro e w' ⟨rfl, rfl⟩
    go_wp2_with fail
    refine (C2.out _ HK.out.1).mono ?_
    rintro e w' ⟨rfl, rfl⟩
    go_wp2_with fail
    go_ret
    exact ⟨rfl, hb1⟩

set_option maxHeartbeats 4000000 in
set_option maxRecDepth 100000 in
theorem months_ok (n a b : Int) (w : World) (hL : Laid w) (a1 : -32768 ≤ a) (a2 : a ≤ 32767) (b1 : -32768 ≤ b) (b2 : b ≤ 32767) (h0 : 0 ≤ n) (h1 : n ≤ 100000) (hE : moE n a = 0) : Calls Tryd.prog 6 #[.int .i64 n, .int .i16 a, .int .i16 b] w (Yes w) := by
  have HL := Lib.hid hL
  clear hL
  obtain ⟨q1, q2⟩ := mo_eq n a h0 h1
  obtain ⟨t1, t2⟩ := mo_eq n (a + b) h0 h1
  obtain ⟨m1, m2, d1, _, _⟩ := split_ok n
  have ⟨y1, y2⟩ := split_yr n h0 h1
  rw [q2] at hE
  obtain ⟨v1, z1, z2, o1, o2, c1, c2, n1, n2⟩ := mk_ok _ _ _ hE
  obtain ⟨s1, s2, s3⟩ := split_num _ _ _ o1 o2 c1 c2
  have lb := len_bd (mk n a / 12) (mk n a % 12 + 1) o1 o2
  have C1 := Lib.hid (fun W => split_yes n W h0 h1)
  have C2 := Lib.hid (fun W hT => mo_at h0 h1 (q1.trans v1) (q2.trans hE) W hT)
  have C3 := Lib.hid (fun W => sp_at n1 n2 s1 s2 s3 W)
  obtain ⟨u1, u2⟩ := mo_eq (num (mk n a / 12) (mk n a % 12 + 1) (toM (mk n a) (spD n))) b n1 n2
  have hk : mk n (a + b) = mk n a + b := by unfold mk; omega
  have hk' : mk (num (mk n a / 12) (mk n a % 12 + 1) (toM (mk n a) (spD n))) b = mk n a + b := by
    unfold mk at s1 s2 ⊢; rw [s1, s2]; omega
  rw [hk', s3] at u1 u2
  rw [hk] at t1 t2
  have hkd : mk n a = 12 * spY n + spM n - 1 + a := rfl
  have C6 := Lib.hid (fun W hT => mo_at h0 h1 t1 t2 W hT)
  have C5 := Lib.hid (fun W hT => mo_at n1 n2 u1 u2 W hT)
  have C4 := Lib.hid (fun W => rlength_any (mk n a / 12) (mk n a % 12 + 1) W (by omega) (by omega) o1 o2)
  have ht : toM (mk n a) (spD n) = min (spD n) (len (mk n a / 12) (mk n a % 12 + 1)) := rfl
  clear q1 q2 hE t1 t2 s1 s2 s3 u1 u2 hk hk' v1
  generalize toM (mk n a) (spD n) = c at *
  generalize len (mk n a / 12) (mk n a % 12 + 1) = L at *
  generalize mk n a = k at *
  generalize num (k / 12) (k % 12 + 1) c = N at *
  generalize spY n = y at *
  generalize spM n = m at *
  generalize spD n = d at *
  have hz : k = 12 * (k / 12) + (k % 12 + 1) - 1 := by omega
  generalize hzz : k / 12 = z at *
  generalize hoo : k % 12 + 1 = o at *
  clear hzz hoo
  have hq : (12 * z + o != 12 * y + m + a) = false := by simp only [bne_eq_false_iff_eq]; omega
  have hq1 : -1000000 ≤ 12 * z + o := by omega
  by_cases hd : 28 < d
  · have hmin : (c != min d L) = false := by rw [ht]; simp
    clear C5 C6 hkd ht hz
    go_enter Tryd.func6, Tryd.ntmps6
    go_wp2_with fail
    refine (head_any _ HL.out).mono ?_
    rintro e w1 ⟨rfl, hb1⟩
    have HK := Lib.hid (HL.out.keep hb1)
    go_wp2_with fail
    refine (C1.out _).mono ?_
    rintro e w' ⟨rfl, rfl⟩
    go_wp2_with fail
    refine (C2.out _ HK.out.1).mono ?_
    rintro e w' ⟨rfl, rfl⟩
    go_wp2_with fail
    refine (C3.out _).mono ?_
    rintro e w' ⟨rfl, rfl⟩
    go_wp2_with fail
    refine (C4.out _).mono ?_
    rintro e w' ⟨rfl, rfl⟩
    go_wp2_with fail
    go_ret
    exact ⟨rfl, hb1⟩
  · obtain rfl : c = d := by omega
    have hmin : (c != min c L) = false := by simp only [bne_eq_false_iff_eq]; omega
    have hd2 : decide (28 < c) = false := by simpa using hd
    generalize mkV ((k + b) / 12) ((k + b) % 12 + 1) (toM (k + b) c) = V at *
    generalize mkE ((k + b) / 12) ((k + b) % 12 + 1) (toM (k + b) c) = E at *
    clear hkd ht hz
    go_enter Tryd.func6, Tryd.ntmps6
    go_wp2_with fail
    refine (head_any _ HL.out).mono ?_
    rintro e w1 ⟨rfl, hb1⟩
    have HK := Lib.hid (HL.out.keep hb1)
    go_wp2_with fail
    refine (C1.out _).mono ?_
    rintro e w' ⟨rfl, rfl⟩
    go_wp2_with fail
    refine (C2.out _ HK.out.1).mono ?_
    rintro e w' ⟨rfl, rfl⟩
    go_wp2_with fail
    refine (C3.out _).mono ?_
    rintro e w' ⟨rfl, rfl⟩
    go_wp2_with fail
    refine (C4.out _).mono ?_
    rintro e w' ⟨rfl, rfl⟩
    go_wp2_with fail
    refine (C5.out _ HK.out.1).mono ?_
    rintro e w' ⟨rfl, rfl⟩
    go_wp2_with fail
    refine (C6.out _ HK.out.1).mono ?_
    rintro e w' ⟨rfl, rfl⟩
    go_wp2_with fail
    go_ret
    exact ⟨rfl, hb1⟩
theorem months_walk (n a b : Int) (w : World) (hL : Laid w) (a1 : -32768 ≤ a) (a2 : a ≤ 32767) (b1 : -32768 ≤ b) (b2 : b ≤ 32767) : Calls Tryd.prog 6 #[.int .i64 n, .int .i16 a, .int .i16 b] w (Yes w) := by
  by_cases h : 0 ≤ n ∧ n ≤ 100000
  · by_cases hE : moE n a = 0
    · exact months_ok n a b w hL a1 a2 b1 b2 h.1 h.2 hE
    · exact months_err n a b w hL a1 a2 h.1 h.2 hE
  · exact months_out n a b w hL a1 a2 (by omega)
end Go.Proofs.YtjebbmnjegndkaaDoor
