/- The contracts of package date's functions on single days. Under the condition that the table of lengths lies in memory as the program lays it. -/
import Derived.Test.YtjebbmnjegndkaaGreatDoorRows
import Derived.Test.YtjebbmnjegndkaaGreatDoorPlain
import Derived.WalkKit
import Derived.WalkSpells
import Derived.WalkLawsBesides
import Derived.Deep.QuietTactic
import Derived.BigQuiet
import Derived.Lib.Hide
namespace Go.Proofs.YtjebbmnjegndkaaGreatDoor
open Go.RowKit

/-- the table of lengths lies in memory -/
def Tab (w : World) : Prop := ∀ k : Nat, k < 12 → w.cell? ⟨0, k, none⟩ = some (.int .i64 (tb k))

set_option maxHeartbeats 400000 in
theorem isDay_yes (n : Int) (w : World) (h0 : 0 ≤ n) (h1 : n ≤ 100000) :
    Calls Tryz.prog 20 #[.int .i64 n] w fun e w' => e = .returned (.bool true) ∧ w = w' := by
  go_enter Tryz.func20, Tryz.ntmps20
  go_wp2
  go_ret
  exact ⟨rfl, rfl⟩
set_option maxHeartbeats 400000 in
theorem isDay_no (n : Int) (w : World) (h : n < 0 ∨ 100000 < n) :
    Calls Tryz.prog 20 #[.int .i64 n] w fun e w' => e = .returned (.bool false) ∧ w = w' := by
  rcases h with h | h
  · go_enter Tryz.func20, Tryz.ntmps20
    go_wp2
    go_ret
    exact ⟨rfl, rfl⟩
  · have h0 : 0 ≤ n := by omega
    have hb : decide (n ≤ 100000) = false := by simp; omega
    go_enter Tryz.func20, Tryz.ntmps20
    go_wp2
    go_ret
    exact ⟨rfl, rfl⟩

set_option maxHeartbeats 400000 in
theorem length_any (y m : Int) (w : World) (h0 : 0 ≤ y) (h1 : y ≤ 100000) (m1 : 1 ≤ m) (m2 : m ≤ 12) (hT : Tab w) :
    Calls Tryz.prog 19 #[.int .i64 y, .int .i64 m] w fun e w' => e = .returned (.int .i64 (len y m)) ∧ w = w' := by
  have hc := hT (m - 1).toNat (by omega)
  clear hT
  by_cases hm : m = 2
  · obtain rfl := hm
    have hc : w.cell? ⟨0, 1, none⟩ = some (.int .i64 28) := hc
    by_cases h4 : y % 4 = 0
    · have b4 : (y % 4 == 0) = true := by simp [h4]
      by_cases h100 : y % 100 = 0
      · have b100 : (y % 100 != 0) = false := by simp [h100]
        by_cases h400 : y % 400 = 0
        · have b400 : (y % 400 == 0) = true := by simp [h400]
          have H := Lib.hid (show len y 2 = 29 by simp [len, lp, b4, b100, b400])
          clear h4 h100 h400
          go_enter Tryz.func19, Tryz.ntmps19
          go_wp2
          go_ret
          exact ⟨by rw [H.out]; rfl, rfl⟩
        · have b400 : (y % 400 == 0) = false := by simp [h400]
          have H := Lib.hid (show len y 2 = 28 by simp [len, lp, b4, b100, b400, tb])
          clear h4 h100 h400
          go_enter Tryz.func19, Tryz.ntmps19
          go_wp2
          go_ret
          exact ⟨by rw [H.out]; rfl, rfl⟩
      · have b100 : (y % 100 != 0) = true := by simp [h100]
        have H := Lib.hid (show len y 2 = 29 by simp [len, lp, b4, b100])
        clear h4 h100
        go_enter Tryz.func19, Tryz.ntmps19
        go_wp2
        go_ret
        exact ⟨by rw [H.out]; rfl, rfl⟩
    · have b4 : (y % 4 == 0) = false := by simp [h4]
      have b400 : (y % 400 == 0) = false := by simp; omega
      have H := Lib.hid (show len y 2 = 28 by simp [len, lp, b4, b400, tb])
      clear h4
      go_enter Tryz.func19, Tryz.ntmps19
      go_wp2
      go_ret
      exact ⟨by rw [H.out]; rfl, rfl⟩
  · obtain ⟨k, rfl⟩ : ∃ k : Nat, m = k + 1 := ⟨(m - 1).toNat, by omega⟩
    have b : ((k : Int) + 1 == 2) = false := by simp only [beq_eq_false_iff_ne]; exact hm
    have H := Lib.hid (show len y (k + 1) = tb k by simp [len, hm])
    have hc : w.cell? ⟨0, k, none⟩ = some (.int .i64 (tb k)) := by simpa using hc
    have hk : k < 12 := by omega
    generalize tb k = t at *
    clear hm
    go_enter Tryz.func19, Tryz.ntmps19
    go_wp2
    go_ret
    exact ⟨by rw [H.out]; rfl, rfl⟩

end Go.Proofs.YtjebbmnjegndkaaGreatDoor
