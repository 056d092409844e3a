/- The contracts of the disk's Start and Arm. Under no condition. -/
import Derived.Test.YtihoomlaggihlaaGreatDoorJD
namespace Go.Proofs.YtihoomlaggihlaaGreatDoor
open Go.RowKit

theorem DB.set1 {w : World} {d sb n : Nat} {qv av : Value} {off : Bool} (h : DB w d sb n qv off av) (u : Value) : DB (w.setCell ⟨d, 1, none⟩ u) d sb n u off av := by
  have k := heap_setCell_same w d 1 _ _ u h
  simpa [DB] using k
theorem DB.set2 {w : World} {d sb n : Nat} {qv av : Value} {off : Bool} (h : DB w d sb n qv off av) (b : Bool) : DB (w.setCell ⟨d, 2, none⟩ (.bool b)) d sb n qv b av := by
  have k := heap_setCell_same w d 2 _ _ (.bool b) h
  simpa [DB] using k
theorem DB.set3 {w : World} {d sb n : Nat} {qv av : Value} {off : Bool} (h : DB w d sb n qv off av) (u : Value) : DB (w.setCell ⟨d, 3, none⟩ u) d sb n qv off u := by
  have k := heap_setCell_same w d 3 _ _ u h
  simpa [DB] using k
set_option maxHeartbeats 4000000 in
set_option maxRecDepth 100000 in
theorem start_any (w : World) (d sb n : Nat) (qv av : Value) (off : Bool) (h : DB w d sb n qv off av) :
    Calls Tryz.prog 22 #[.pointer (some ⟨d, 0, none⟩)] w fun e w' => e = .returned (.tuple #[]) ∧ DB w' d sb n qv false (.pointer none) ∧ Out (· = d) w w' := by
  have HE : Hid (DB ((w.setCell ⟨d, 2, none⟩ (.bool false)).setCell ⟨d, 3, none⟩ (.pointer none)) d sb n qv false (.pointer none) ∧ Out (· = d) w ((w.setCell ⟨d, 2, none⟩ (.bool false)).setCell ⟨d, 3, none⟩ (.pointer none))) := Lib.hid ⟨(h.set2 false).set3 _, (Out.set (F := (· = d)) w (a := ⟨d, 2, none⟩) (.bool false) rfl).trans (Out.set (F := (· = d)) _ (a := ⟨d, 3, none⟩) (.pointer none) rfl) (fun _ e => Or.inl e)⟩
  obtain ⟨hd, c0, c1, c2, c3, fz⟩ := h.cells
  have f2 := fz 2
  have f3 := fz 3
  clear h fz
  go_enter Tryz.func22, Tryz.ntmps22
  go_wp2_with fail
  go_end0
  exact ⟨rfl, HE.out⟩
set_option maxHeartbeats 4000000 in
set_option maxRecDepth 100000 in
theorem arm_off (w : World) (d sb n : Nat) (qv av : Value) (a b c : Int) (h : DB w d sb n qv true av) :
    Calls Tryz.prog 24 #[.pointer (some ⟨d, 0, none⟩), .int .i64 a, .int .i64 b, .int .i64 c] w fun e w' => e = .returned (.tuple #[]) ∧ w = w' := by
  obtain ⟨hd, c0, c1, c2, c3, fz⟩ := h.cells
  clear h fz
  go_enter Tryz.func24, Tryz.ntmps24
  go_wp2_with fail
  exact bodyPost_ret (v := .tuple #[]) (by simp [results, Tryz.results24, go_sem]) rfl ⟨rfl, rfl⟩
set_option maxHeartbeats 4000000 in
set_option maxRecDepth 100000 in
theorem arm_never (w : World) (d sb n : Nat) (qv av : Value) (a b c : Int) (h : DB w d sb n qv false av) (ha : a < 0) :
    Calls Tryz.prog 24 #[.pointer (some ⟨d, 0, none⟩), .int .i64 a, .int .i64 b, .int .i64 c] w fun e w' => e = .returned (.tuple #[]) ∧ DB w' d sb n qv false (.pointer none) ∧ Out (· = d) w w' := by
  have HE : Hid (DB (w.setCell ⟨d, 3, none⟩ (.pointer none)) d sb n qv false (.pointer none) ∧ Out (· = d) w (w.setCell ⟨d, 3, none⟩ (.pointer none))) := Lib.hid ⟨h.set3 _, Out.set (F := (· = d)) w (a := ⟨d, 3, none⟩) (.pointer none) rfl⟩
  obtain ⟨hd, c0, c1, c2, c3, fz⟩ := h.cells
  have f3 := fz 3
  clear h fz
  go_enter Tryz.func24, Tryz.ntmps24
  go_wp2_with fail
  go_end0
  exact ⟨rfl, HE.out⟩
set_option maxHeartbeats 4000000 in
set_option maxRecDepth 100000 in
theorem arm_at (w : World) (d sb n : Nat) (qv av : Value) (a b c : Int) (h : DB w d sb n qv false av) (ha : 0 ≤ a) :
    Calls Tryz.prog 24 #[.pointer (some ⟨d, 0, none⟩), .int .i64 a, .int .i64 b, .int .i64 c] w fun e w' => e = .returned (.tuple #[]) ∧ ∃ g, DB w' d sb n qv false (.pointer (some ⟨g, 0, none⟩)) ∧ w'.heap[g]? = some (.cells #[.int .i64 a, .int .i64 b, .int .i64 c] 95 (0, 0)) ∧ w.heap.size ≤ g ∧ Out (· = d) w w' := by
  obtain ⟨hd, c0, c1, c2, c3, fz⟩ := h.cells
  have f3 := fz 3
  have HH := Lib.hid h
  clear h fz
  go_enter Tryz.func24, Tryz.ntmps24
  go_wp2_with fail
  go_end0
  refine ⟨rfl, w.heap.size, ((HH.out.set3 _).set3 _).keep (Gr.one _ _).below, ?_, Nat.le_refl _, ?_⟩
  · have k := heap_alloc_new ((w.setCell ⟨d, 3, none⟩ (.pointer none)).setCell ⟨d, 3, none⟩ (.pointer (some ⟨w.heap.size, 0, none⟩))) (.cells #[.int .i64 a, .int .i64 b, .int .i64 c] 95)
    simpa using k
  · exact ((Out.set (F := (· = d)) w (a := ⟨d, 3, none⟩) (.pointer none) rfl).trans (Out.set (F := (· = d)) _ (a := ⟨d, 3, none⟩) _ rfl) (fun _ e => Or.inl e)).trans (Out.of_below (F := (· = d)) (Gr.one _ _).below) (fun _ e => Or.inl e)
end Go.Proofs.YtihoomlaggihlaaGreatDoor
