/- The walks of the laws DateFollows, DateBack, DateWeeks. Under the condition that the tables lie in memory as the program lays them. -/
import Derived.Test.YtjebbmnjegndkaaDoorJ
import Derived.Test.YtjebbmnjegndkaaDoorPlainB
namespace Go.Proofs.YtjebbmnjegndkaaDoor
open Go.RowKit

/-- what a law leaves -/
def Yes (w : World) (e : Ending) (w' : World) : Prop := e = .returned (.bool true) ∧ Below w.heap.size w w'

theorem rlen_at {y m L : Int} (h : len y m = L) (w : World) (h0 : 0 ≤ y) (h1 : y ≤ 100000) (m1 : 1 ≤ m) (m2 : m ≤ 12) :
    Calls Tryd.prog 13 #[.int .i64 y, .int .i64 m] w fun e w' => e = .returned (.int .i64 L) ∧ w = w' := by
  have := rlength_any y m w h0 h1 m1 m2
  rwa [h] at this

set_option maxHeartbeats 2000000 in
set_option maxRecDepth 100000 in
theorem follows_out (n : Int) (w : World) (hL : Laid w) (h : n < 0 ∨ 100000 < n) : Calls Tryd.prog 3 #[.int .i64 n] w (Yes w) := by
  rcases h with h | h
  · have b1 : (n != 100000) = true := by simp only [bne_iff_ne]; omega
    go_enter Tryd.func3, Tryd.ntmps3
    go_wp2_with fail
    refine (head_any _ hL).mono ?_
    rintro e w1 ⟨rfl, hb1⟩
    go_wp2_with fail
    refine (split_no _ _ (Or.inl h)).mono ?_
    rintro e w' ⟨rfl, rfl⟩
    go_wp2_with fail
    go_ret
    exact ⟨rfl, hb1⟩
  · have b1 : (n != 100000) = true := by simp only [bne_iff_ne]; omega
    have h0 : 0 ≤ n := by omega
    go_enter Tryd.func3, Tryd.ntmps3
    go_wp2_with fail
    refine (head_any _ hL).mono ?_
    rintro e w1 ⟨rfl, hb1⟩
    go_wp2_with fail
    refine (split_no _ _ (Or.inr h)).mono ?_
    rintro e w' ⟨rfl, rfl⟩
    go_wp2_with fail
    go_ret
    exact ⟨rfl, hb1⟩

set_option maxHeartbeats 2000000 in
set_option maxRecDepth 100000 in
theorem follows_last (w : World) (hL : Laid w) : Calls Tryd.prog 3 #[.int .i64 100000] w (Yes w) := by
  go_enter Tryd.func3, Tryd.ntmps3
  go_wp2_with fail
  refine (head_any _ hL).mono ?_
  rintro e w1 ⟨rfl, hb1⟩
  go_wp2_with fail
  refine (split_yes _ _ (by decide) (by decide)).mono ?_
  rintro e w' ⟨rfl, rfl⟩
  go_wp2_with fail
  go_ret
  exact ⟨rfl, hb1⟩

set_option maxHeartbeats 4000000 in
set_option maxRecDepth 100000 in
theorem follows_in (n : Int) (w : World) (hL : Laid w) (h0 : 0 ≤ n) (h1 : n < 100000) : Calls Tryd.prog 3 #[.int .i64 n] w (Yes w) := by
  have hb0 : decide (n < 0) = false := by simp; omega
  have hb1 : decide (100000 ≤ n) = false := by simp; omega
  have ⟨y1, y2⟩ := split_yr n h0 (by omega)
  obtain ⟨a1, a2, a3, a4, _⟩ := split_ok n
  have n1 := next_in n
  have n2 := next_month n
  have n3 := next_year n
  have lb := len_bd (spY n) (spM n) a1 a2
  obtain ⟨L, hLn⟩ : ∃ L, len (spY n) (spM n) = L := ⟨_, rfl⟩
  rw [hLn] at a4 n1 n2 n3 lb
  obtain ⟨y, hY⟩ : ∃ y, spY n = y := ⟨_, rfl⟩
  obtain ⟨m, hM⟩ : ∃ y, spM n = y := ⟨_, rfl⟩
  obtain ⟨d, hD⟩ : ∃ y, spD n = y := ⟨_, rfl⟩
  rw [hY] at n1 n2 n3 y1 y2 hLn
  rw [hM] at n1 n2 n3 a1 a2 hLn
  rw [hD] at n1 n2 n3 a3 a4
  have C1 := Lib.hid (fun W => sp_at h0 (by omega) hY hM hD W)
  have C2 := Lib.hid (fun W => rlen_at hLn W (by omega) (by omega) a1 a2)
  clear hY hM hD hLn
  by_cases c : d < L
  · obtain ⟨e1, e2, e3⟩ := n1 c
    have C3 := Lib.hid (fun W => sp_at (n := n + 1) (by omega) (by omega) e1 e2 e3 W)
    clear n1 n2 n3 e1 e2 e3
    go_enter Tryd.func3, Tryd.ntmps3
    go_wp2_with fail
    refine (head_any _ hL).mono ?_
    rintro e w1 ⟨rfl, hb1⟩
    go_wp2_with fail
    refine (C1.out _).mono ?_
    rintro e w' ⟨rfl, rfl⟩
    go_wp2_with fail
    refine (C3.out _).mono ?_
    rintro e w' ⟨rfl, rfl⟩
    go_wp2_with fail
    refine (C2.out _).mono ?_
    rintro e w' ⟨rfl, rfl⟩
    go_wp2_with fail
    go_ret
    exact ⟨rfl, hb1⟩
  · obtain rfl : d = L := by omega
    have bd : decide (d < d) = false := by simp
    by_cases cm : m < 12
    · obtain ⟨e1, e2, e3⟩ := n2 rfl cm
      have C3 := Lib.hid (fun W => sp_at (n := n + 1) (by omega) (by omega) e1 e2 e3 W)
      clear n1 n2 n3 e1 e2 e3 c
      go_enter Tryd.func3, Tryd.ntmps3
      go_wp2_with fail
      refine (head_any _ hL).mono ?_
      rintro e w1 ⟨rfl, hb1⟩
      go_wp2_with fail
      refine (C1.out _).mono ?_
      rintro e w' ⟨rfl, rfl⟩
      go_wp2_with fail
      refine (C3.out _).mono ?_
      rintro e w' ⟨rfl, rfl⟩
      go_wp2_with fail
      refine (C2.out _).mono ?_
      rintro e w' ⟨rfl, rfl⟩
      go_wp2_with fail
      refine (C2.out _).mono ?_
      rintro e w' ⟨rfl, rfl⟩
      go_wp2_with fail
      go_ret
      exact ⟨rfl, hb1⟩
    · obtain rfl : m = 12 := by omega
      obtain ⟨e1, e2, e3⟩ := n3 rfl rfl
      have C3 := Lib.hid (fun W => sp_at (n := n + 1) (by omega) (by omega) e1 e2 e3 W)
      clear n1 n2 n3 e1 e2 e3 c cm
      go_enter Tryd.func3, Tryd.ntmps3
      go_wp2_with fail
      refine (head_any _ hL).mono ?_
      rintro e w1 ⟨rfl, hb1⟩
      go_wp2_with fail
      refine (C1.out _).mono ?_
      rintro e w' ⟨rfl, rfl⟩
      go_wp2_with fail
      refine (C3.out _).mono ?_
      rintro e w' ⟨rfl, rfl⟩
      go_wp2_with fail
      refine (C2.out _).mono ?_
      rintro e w' ⟨rfl, rfl⟩
      go_wp2_with fail
      refine (C2.out _).mono ?_
      rintro e w' ⟨rfl, rfl⟩
      go_wp2_with fail
      go_ret
      exact ⟨rfl, hb1⟩
theorem follows_walk (n : Int) (w : World) (hL : Laid w) : Calls Tryd.prog 3 #[.int .i64 n] w (Yes w) := by
  by_cases h : 0 ≤ n ∧ n < 100000
  · exact follows_in n w hL h.1 h.2
  · by_cases h' : n = 100000
    · subst h'; exact follows_last w hL
    · exact follows_out n w hL (by omega)
end Go.Proofs.YtjebbmnjegndkaaDoor
