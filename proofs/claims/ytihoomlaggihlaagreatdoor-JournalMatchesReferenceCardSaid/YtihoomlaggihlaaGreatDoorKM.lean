/- The contract of Append's deferred closure: it marks the journal broken. Under no condition. -/
import Derived.Test.YtihoomlaggihlaaGreatDoorKL
import Derived.Defers
namespace Go.Proofs.YtihoomlaggihlaaGreatDoor
open Go.RowKit

set_option maxHeartbeats 4000000 in
set_option maxRecDepth 100000 in
theorem cl_mark (w : World) (u : FrameMode) (jb be bj : Nat) (e : Int) (q : Bool) (hq : q = decide (¬ e = 0)) (v0 v1 v2 v3 v4 : Value) (hj : w.heap[jb]? = some (.cells #[v0, v1, v2, v3, v4] 53 (0, 0)))
    (h1 : w.heap[bj]? = some (.cells #[.pointer (some ⟨jb, 0, none⟩)] 25 (0, 0))) (h2 : w.heap[be]? = some (.cells #[.int .i64 e] 27 (0, 0))) :
    CallsD Tryz.prog 48 #[.pointer (some ⟨be, 0, none⟩), .pointer (some ⟨bj, 0, none⟩)] u w fun e' u' w' => u' = u ∧ (e' = .returned (.tuple #[]) ∧ w' = w.setCell ⟨jb, 4, none⟩ (.bool q)) := by
  have c1 : w.cell? ⟨bj, 0, none⟩ = some (.pointer (some ⟨jb, 0, none⟩)) := cell_at h1 rfl
  have c2 : w.cell? ⟨be, 0, none⟩ = some (.int .i64 e) := cell_at h2 rfl
  have c4 : w.cell? ⟨jb, 4, none⟩ = some v4 := cell_at hj rfl
  have f4 : w.frozen? ⟨jb, 4, none⟩ = false := by
    unfold World.frozen?
    rw [hj]
    rfl
  clear hj h1 h2
  subst hq
  by_cases he : e = 0
  · subst he
    go_enter_d Tryz.func48, Tryz.ntmps48
    go_wp2_with fail
    go_end0
    exact ⟨rfl, by first | rfl | simp⟩
  · have hd : decide (¬ e = 0) = true := by simp [he]
    rw [hd]
    go_enter_d Tryz.func48, Tryz.ntmps48
    go_wp2_with fail
    go_end0
    exact ⟨rfl, by rw [show (e != 0) = true by simpa using he]⟩
end Go.Proofs.YtihoomlaggihlaaGreatDoor
