/- Append: its ways out ahead of any write. Under the condition that the tables lie in memory as the program lays them. -/
import Derived.Test.YtihoomlaggihlaaGreatDoorKM
import Derived.Deep.CutRange
namespace Go.Proofs.YtihoomlaggihlaaGreatDoor
open Go.RowKit

/-- the world with Append's own two variables -/
def A2 (w : World) (jb : Nat) : World := (w.alloc (.cells #[.pointer (some ⟨jb, 0, none⟩)] 25)).alloc (.cells #[.int .i64 0] 27)
theorem A2_below (w : World) (jb : Nat) : Below w.heap.size w (A2 w jb) := ((Below.refl _ _).alloc (Nat.le_refl _) _).alloc (by simp) _
theorem A2_size (w : World) (jb : Nat) : (A2 w jb).heap.size = w.heap.size + 2 := by simp [A2]
theorem A2_j (w : World) (jb : Nat) : (A2 w jb).heap[w.heap.size]? = some (.cells #[.pointer (some ⟨jb, 0, none⟩)] 25 (0, 0)) := by
  unfold A2
  rw [Below.heap_alloc _ _ _ (by simp)]
  exact heap_alloc_new _ _
theorem A2_e (w : World) (jb : Nat) : (A2 w jb).heap[w.heap.size + 1]? = some (.cells #[.int .i64 0] 27 (0, 0)) := by
  unfold A2
  have := heap_alloc_new (w.alloc (.cells #[.pointer (some ⟨jb, 0, none⟩)] 25)) (.cells #[.int .i64 0] 27)
  rwa [show (w.alloc (.cells #[.pointer (some ⟨jb, 0, none⟩)] 25)).heap.size = w.heap.size + 1 by simp] at this
set_option maxHeartbeats 4000000 in
set_option maxRecDepth 100000 in
theorem append_broken (w : World) (G : Nat → Prop) (jb d n c : Nat) (recs : List (List UInt8)) (v : Value) (h : JAt w G jb d n c recs true) :
    Calls Tryz.prog 13 #[.pointer (some ⟨jb, 0, none⟩), v] w fun e w' => e = .returned (.int .i64 11) ∧ Below w.heap.size w w' := by
  obtain ⟨rv, h1, _⟩ := h.mem
  have hjl := heap_lt h1
  have hB := A2_below w jb
  have c4 : (A2 w jb).cell? ⟨jb, 4, none⟩ = some (.bool true) := (hB.cell (p := ⟨jb, 4, none⟩) hjl).trans (cell_at h1 rfl)
  unfold A2 at c4 hB
  clear h h1
  go_enter_defers Tryz.func13, Tryz.ntmps13
  go_wp2_with fail
  simp [bodyPostD, Leaves, results, Tryz.results13, go_sem]
  exact Below.alloc (Below.alloc (Below.refl _ _) (Nat.le_refl _) _) (by simp) _
set_option maxHeartbeats 4000000 in
set_option maxRecDepth 100000 in
theorem append_long (w : World) (G : Nat → Prop) (jb d n c : Nat) (recs xs : List (List UInt8)) (v : Value) (h : JAt w G jb d n c recs false) (hv : SR w (fun _ => False) v xs) (hm : xs.length ≤ 1000000) (hl : ∀ t ∈ xs, t.length ≤ 10000000) (hb : longB xs = true) :
    Calls Tryz.prog 13 #[.pointer (some ⟨jb, 0, none⟩), v] w fun e w' => e = .returned (.int .i64 2) ∧ Below w.heap.size w w' := by
  obtain ⟨rv, h1, _⟩ := h.mem
  have hjl := heap_lt h1
  have hB := A2_below w jb
  have c4 : (A2 w jb).cell? ⟨jb, 4, none⟩ = some (.bool false) := (hB.cell (p := ⟨jb, 4, none⟩) hjl).trans (cell_at h1 rfl)
  have HL := Lib.hid (long_any (A2 w jb) _ v xs (hv.out (Out.of_below hB)) hm hl)
  rw [hb] at HL
  unfold A2 at c4 hB HL
  clear h h1 hm hl hb
  obtain ⟨a, cc, rfl, _⟩ := hv
  go_enter_defers Tryz.func13, Tryz.ntmps13
  go_wp2_with fail
  refine HL.out.mono ?_
  rintro e w2 ⟨rfl, rfl⟩
  go_wp2_with fail
  simp [bodyPostD, Leaves, results, Tryz.results13, go_sem]
  exact Below.alloc (Below.alloc (Below.refl _ _) (Nat.le_refl _) _) (by simp) _
set_option maxHeartbeats 4000000 in
set_option maxRecDepth 100000 in
theorem append_room (w : World) (G : Nat → Prop) (jb d n c : Nat) (recs xs : List (List UInt8)) (v : Value) (h : JAt w G jb d n c recs false) (hn : n ≤ 4000) (hL : Laid w) (hv : SR w (fun _ => False) v xs) (hm : xs.length ≤ 1000000) (hl : ∀ t ∈ xs, t.length ≤ 10000000) (hb : longB xs = false) (ht : (textP xs).length ≤ 10000000) (hr : n - 2 - c < (pieces (textP xs)).length) :
    Calls Tryz.prog 13 #[.pointer (some ⟨jb, 0, none⟩), v] w fun e w' => e = .returned (.int .i64 22) ∧ Below w.heap.size w w' := by
  obtain ⟨rv, h1, _⟩ := h.mem
  have hjl := heap_lt h1
  have hB := A2_below w jb
  have c4 : (A2 w jb).cell? ⟨jb, 4, none⟩ = some (.bool false) := (hB.cell (p := ⟨jb, 4, none⟩) hjl).trans (cell_at h1 rfl)
  have hs := hv.out (Out.of_below hB)
  have HL := Lib.hid (long_any (A2 w jb) _ v xs hs hm hl)
  rw [hb] at HL
  have HT := Lib.hid (text_any (A2 w jb) v xs hs ht (hL.keep hB))
  have HJ := Lib.hid h
  have AJ := A2_j w jb
  have AE := A2_e w jb
  have AS := A2_size w jb
  have HB := Lib.hid hB
  have HAJ := Lib.hid (And.intro AJ (And.intro AE AS))
  clear AJ AE AS
  unfold A2 at c4 HL HT
  have hr1 : ((n - 2 - c : Nat) : Int) < ((pieces (textP xs)).length : Int) := by omega
  clear h h1 hm hl hb hL hs hB hr
  obtain ⟨a, cc, rfl, _⟩ := hv
  go_enter_defers Tryz.func13, Tryz.ntmps13
  go_wp2_with fail
  refine HL.out.mono ?_
  rintro e w2 ⟨rfl, rfl⟩
  clear HL
  go_wp2_with fail
  refine HT.out.mono ?_
  rintro e w3 ⟨rfl, hb3⟩
  change Below (A2 w jb).heap.size (A2 w jb) w3 at hb3
  clear HT c4
  have HB3 := Lib.hid hb3
  have HP := Lib.hid (split_any w3 (textP xs) ht)
  clear hb3
  go_wp2_with fail
  refine HP.out.mono ?_
  rintro e w4 ⟨pv, rfl, ho, hb4⟩
  obtain ⟨pa, pc, rfl, _⟩ := SR.own (F := fun _ => False) ho (fun _ _ => id)
  have HB4 := Lib.hid (HB3.out.trans (hb4.mono HB3.out.size))
  clear ho hb4 HP HB3
  have cj : w4.cell? ⟨w.heap.size, 0, none⟩ = some (.pointer (some ⟨jb, 0, none⟩)) := (HB4.out.cell (p := ⟨w.heap.size, 0, none⟩) (by have := HAJ.out.2.2; simp; omega)).trans (cell_at HAJ.out.1 rfl)
  have HR := Lib.hid (room_any w4 G jb d n c recs false ((HJ.out.below HB.out).below HB4.out) hn)
  go_wp2_with fail
  refine HR.out.mono ?_
  rintro e w5 ⟨rfl, hb5⟩
  have HB5 := Lib.hid (HB4.out.trans (hb5.mono HB4.out.size))
  have ce : w5.cell? ⟨w.heap.size + 1, 0, none⟩ = some (.int .i64 0) := (HB5.out.cell (p := ⟨w.heap.size + 1, 0, none⟩) (by have := HAJ.out.2.2; simp; omega)).trans (cell_at HAJ.out.2.1 rfl)
  have fe : w5.frozen? ⟨w.heap.size + 1, 0, none⟩ = false := (HB5.out.frozen (p := ⟨w.heap.size + 1, 0, none⟩) (by have := HAJ.out.2.2; simp; omega)).trans (frozen_at HAJ.out.2.1 0)
  clear hb5 HR cj
  go_wp2_with fail
  have c22 : (w5.setCell ⟨w.heap.size + 1, 0, none⟩ (.int .i64 22)).cell? ⟨w.heap.size + 1, 0, none⟩ = some (.int .i64 22) := World.cell?_setCell_same _ _ _ ce
  simp [bodyPostD, Leaves, results, Tryz.results13, go_sem, c22]
  exact (HB.out.trans (HB5.out.mono HB.out.size)).setCell (by simp) _
set_option maxHeartbeats 4000000 in
set_option maxRecDepth 100000 in
theorem append_none (w : World) (G : Nat → Prop) (jb d n c : Nat) (recs : List (List UInt8)) (v : Value) (h : JAt w G jb d n c recs false) (hn : n ≤ 4000) (hL : Laid w) (hv : SR w (fun _ => False) v []) :
    Calls Tryz.prog 13 #[.pointer (some ⟨jb, 0, none⟩), v] w fun e w' => e = .returned (.int .i64 0) ∧ Below w.heap.size w w' := by
  obtain ⟨rv, h1, _⟩ := h.mem
  have hjl := heap_lt h1
  have hB := A2_below w jb
  have c4 : (A2 w jb).cell? ⟨jb, 4, none⟩ = some (.bool false) := (hB.cell (p := ⟨jb, 4, none⟩) hjl).trans (cell_at h1 rfl)
  have hs := hv.out (Out.of_below hB)
  have HL := Lib.hid (long_any (A2 w jb) _ v [] hs (by simp) (by simp))
  rw [show longB [] = false from rfl] at HL
  have HT := Lib.hid (text_any (A2 w jb) v [] hs (by decide) (hL.keep hB))
  have HJ := Lib.hid h
  have AJ := A2_j w jb
  have AE := A2_e w jb
  have AS := A2_size w jb
  have HB := Lib.hid hB
  have HAJ := Lib.hid (And.intro AJ (And.intro AE AS))
  clear AJ AE AS
  unfold A2 at c4 HL HT
  have hr1 : ¬ ((n - 2 - c : Nat) : Int) < ((pieces (textP [])).length : Int) := by rw [show pieces (textP []) = [] from pieces_nil]; simp only [List.length_nil]; omega
  clear h h1 hL hs hB
  obtain ⟨a, cc, rfl, _⟩ := hv
  go_enter_defers Tryz.func13, Tryz.ntmps13
  go_wp2_with fail
  refine HL.out.mono ?_
  rintro e w2 ⟨rfl, rfl⟩
  clear HL
  go_wp2_with fail
  refine HT.out.mono ?_
  rintro e w3 ⟨rfl, hb3⟩
  change Below (A2 w jb).heap.size (A2 w jb) w3 at hb3
  clear HT c4
  have HB3 := Lib.hid hb3
  have HP := Lib.hid (split_any w3 (textP []) (by decide))
  clear hb3
  go_wp2_with fail
  refine HP.out.mono ?_
  rintro e w4 ⟨pv, rfl, ho, hb4⟩
  obtain ⟨pa, pc, rfl, _⟩ := SR.own (F := fun _ => False) ho (fun _ _ => id)
  have HB4 := Lib.hid (HB3.out.trans (hb4.mono HB3.out.size))
  clear ho hb4 HP HB3
  have cj : w4.cell? ⟨w.heap.size, 0, none⟩ = some (.pointer (some ⟨jb, 0, none⟩)) := (HB4.out.cell (p := ⟨w.heap.size, 0, none⟩) (by have := HAJ.out.2.2; simp; omega)).trans (cell_at HAJ.out.1 rfl)
  have HR := Lib.hid (room_any w4 G jb d n c recs false ((HJ.out.below HB.out).below HB4.out) hn)
  go_wp2_with fail
  refine HR.out.mono ?_
  rintro e w5 ⟨rfl, hb5⟩
  have HB5 := Lib.hid (HB4.out.trans (hb5.mono HB4.out.size))
  have ce : w5.cell? ⟨w.heap.size + 1, 0, none⟩ = some (.int .i64 0) := (HB5.out.cell (p := ⟨w.heap.size + 1, 0, none⟩) (by have := HAJ.out.2.2; simp; omega)).trans (cell_at HAJ.out.2.1 rfl)
  have fe : w5.frozen? ⟨w.heap.size + 1, 0, none⟩ = false := (HB5.out.frozen (p := ⟨w.heap.size + 1, 0, none⟩) (by have := HAJ.out.2.2; simp; omega)).trans (frozen_at HAJ.out.2.1 0)
  clear hb5 HR cj
  go_wp2_with fail
  have c0 : (w5.setCell ⟨w.heap.size + 1, 0, none⟩ (.int .i64 0)).cell? ⟨w.heap.size + 1, 0, none⟩ = some (.int .i64 0) := World.cell?_setCell_same _ _ _ ce
  simp [bodyPostD, Leaves, results, Tryz.results13, go_sem, c0]
  exact (HB.out.trans (HB5.out.mono HB.out.size)).setCell (by simp) _
end Go.Proofs.YtihoomlaggihlaaGreatDoor
