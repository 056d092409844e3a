/- The disk in memory; the contracts of its small methods. Under no condition. -/
import Derived.Test.YtihoomlaggihlaaGreatDoorRows
import Derived.Test.YtihoomlaggihlaaGreatDoorJO
import Derived.Test.YtihoomlaggihlaaGreatDoorJP
import Derived.WalkKit
import Derived.WalkSpells
import Derived.WalkLawsBesides
import Derived.Lib.Hide
import Derived.Shelf.SlSortCmp.QuietGrown
import Derived.Lib.AppendIntMem
namespace Go.Proofs.YtihoomlaggihlaaGreatDoor
open Go.RowKit

/-- the world has grown: draws, and blocks behind it -/
def Gr (w w' : World) : Prop := ∃ q os, w' = Sort.grow (w.drewN q) os
theorem Gr.refl (w : World) : Gr w w := ⟨0, #[], by rw [Sort.grow_empty]; rfl⟩
theorem Gr.trans {w w1 w2 : World} (h : Gr w w1) (g : Gr w1 w2) : Gr w w2 := by
  obtain ⟨q, os, rfl⟩ := h
  obtain ⟨q', os', rfl⟩ := g
  exact ⟨q + q', os ++ os', by show Sort.grow (Sort.grow ((w.drewN q).drewN q') os) os' = _; rw [Sort.grow_grow, World.drewN_drewN]⟩
theorem Gr.one (w : World) (o : Obj) : Gr w (w.alloc o) := ⟨0, _, by rw [Sort.alloc_eq_grow]; rfl⟩
theorem Gr.alloc {w w1 : World} (h : Gr w w1) (o : Obj) : Gr w (w1.alloc o) := h.trans (Gr.one w1 o)
theorem Gr.drewn (w : World) : Gr w w.drew := ⟨1, #[], by rw [Sort.grow_empty]; rfl⟩
theorem Gr.below {w w' : World} (h : Gr w w') : Below w.heap.size w w' := by
  obtain ⟨q, os, rfl⟩ := h
  exact Lib.below_grow _ _ (Nat.le_refl _) _ _

def bytesV (l : List UInt8) : List Value := l.map fun c => .int .u8 (c.toNat : Int)
/-- pending writes, as cells -/
def flatP (l : List (Nat × List UInt8)) : List Value := l.flatMap fun p => [.int .i64 ((p.1 : Int) * 64), .int .i64 (((p.1 : Int) + 1) * 64), .string ⟨p.2.toArray⟩]
theorem heap_lt {w : World} {b : Nat} {o : Obj} (h : w.heap[b]? = some o) : b < w.heap.size := by
  by_cases e : b < w.heap.size
  · exact e
  · rw [Array.getElem?_eq_none (by omega)] at h; cases h
/-- the disk's block, in short: bytes of n sectors, pending writes, off, alarm -/
def DB (w : World) (d sb n : Nat) (qv : Value) (off : Bool) (av : Value) : Prop := w.heap[d]? = some (.cells #[.slice (some ⟨sb, 0, none⟩) (64 * n) (64 * n), qv, .bool off, av] 72 (0, 0))
theorem DB.keep {w w' : World} {d sb n : Nat} {qv av : Value} {off : Bool} (h : DB w d sb n qv off av) (hb : Below w.heap.size w w') : DB w' d sb n qv off av := (hb.block _ (heap_lt h)).trans h
theorem DB.cells {w : World} {d sb n : Nat} {qv av : Value} {off : Bool} (h : DB w d sb n qv off av) : d < w.heap.size ∧ w.cell? ⟨d, 0, none⟩ = some (.slice (some ⟨sb, 0, none⟩) (64 * n) (64 * n)) ∧ w.cell? ⟨d, 1, none⟩ = some qv ∧ w.cell? ⟨d, 2, none⟩ = some (.bool off) ∧ w.cell? ⟨d, 3, none⟩ = some av ∧ ∀ j, w.frozen? ⟨d, j, none⟩ = false :=
  ⟨heap_lt h, cell_at h rfl, cell_at h rfl, cell_at h rfl, cell_at h rfl, fun j => frozen_at h j⟩

set_option maxHeartbeats 4000000 in
set_option maxRecDepth 100000 in
theorem place_yes (w : World) (d sb n i : Nat) (qv av : Value) (off : Bool) (h : DB w d sb n qv off av) (hn : n ≤ 4000) (hi : i < n) :
    Calls Tryz.prog 65 #[.pointer (some ⟨d, 0, none⟩), .int .i64 i] w fun e w' => e = .returned (.tuple #[.agg #[.int .i64 ((i : Int) * 64), .int .i64 (((i : Int) + 1) * 64)], .bool true]) ∧ Gr w w' := by
  obtain ⟨hd, c0, _⟩ := h.cells
  have hi0 : (0 : Int) ≤ (i : Int) := Int.natCast_nonneg _
  clear h
  go_enter Tryz.func65, Tryz.ntmps65
  go_wp2_with fail
  exact bodyPost_ret (v := .tuple #[.agg #[.int .i64 ((i : Int) * 64), .int .i64 (((i : Int) + 1) * 64)], .bool true]) (by simp [results, Tryz.results65, go_sem]) rfl ⟨rfl, Gr.one _ _⟩
set_option maxHeartbeats 4000000 in
set_option maxRecDepth 100000 in
theorem place_no (w : World) (d sb n : Nat) (i : Int) (qv av : Value) (off : Bool) (h : DB w d sb n qv off av) (hn : n ≤ 4000) (hi : i < 0 ∨ (n : Int) ≤ i) :
    Calls Tryz.prog 65 #[.pointer (some ⟨d, 0, none⟩), .int .i64 i] w fun e w' => e = .returned (.tuple #[.agg #[.int .i64 0, .int .i64 0], .bool false]) ∧ Gr w w' := by
  obtain ⟨hd, c0, _⟩ := h.cells
  clear h
  rcases hi with hi | hi
  · go_enter Tryz.func65, Tryz.ntmps65
    go_wp2_with fail
    exact bodyPost_ret (v := .tuple #[.agg #[.int .i64 0, .int .i64 0], .bool false]) (by simp [results, Tryz.results65, go_sem]) rfl ⟨rfl, Gr.one _ _⟩
  · have h0 : decide (i < 0) = false := by simp; omega
    go_enter Tryz.func65, Tryz.ntmps65
    go_wp2_with fail
    exact bodyPost_ret (v := .tuple #[.agg #[.int .i64 0, .int .i64 0], .bool false]) (by simp [results, Tryz.results65, go_sem]) rfl ⟨rfl, Gr.one _ _⟩
set_option maxHeartbeats 4000000 in
set_option maxRecDepth 100000 in
theorem at_off (w : World) (d sb n : Nat) (i : Int) (qv av : Value) (h : DB w d sb n qv true av) :
    Calls Tryz.prog 67 #[.pointer (some ⟨d, 0, none⟩), .int .i64 i] w fun e w' => e = .returned (.tuple #[.agg #[.int .i64 0, .int .i64 0], .int .i64 21]) ∧ Gr w w' := by
  obtain ⟨hd, _, _, c2, _⟩ := h.cells
  clear h
  go_enter Tryz.func67, Tryz.ntmps67
  go_wp2_with fail
  exact bodyPost_ret (v := .tuple #[.agg #[.int .i64 0, .int .i64 0], .int .i64 21]) (by simp [results, Tryz.results67, go_sem]) rfl ⟨rfl, Gr.one _ _⟩
set_option maxHeartbeats 4000000 in
set_option maxRecDepth 100000 in
theorem at_yes (w : World) (d sb n i : Nat) (qv av : Value) (h : DB w d sb n qv false av) (hn : n ≤ 4000) (hi : i < n) :
    Calls Tryz.prog 67 #[.pointer (some ⟨d, 0, none⟩), .int .i64 i] w fun e w' => e = .returned (.tuple #[.agg #[.int .i64 ((i : Int) * 64), .int .i64 (((i : Int) + 1) * 64)], .int .i64 0]) ∧ Below w.heap.size w w' := by
  have HP := Lib.hid (fun W (h : DB W d sb n qv false av) => place_yes W d sb n i qv av false h hn hi)
  obtain ⟨hd, _, _, c2, _⟩ := h.cells
  have HD := Lib.hid h
  have G1 := Lib.hid (Gr.one w (.cells #[.int .i64 0, .int .i64 0] 86))
  clear h
  go_enter Tryz.func67, Tryz.ntmps67
  go_wp2_with fail
  refine (HP.out _ (HD.out.keep G1.out.below)).mono ?_
  rintro e w2 ⟨rfl, hg⟩
  have HB := Lib.hid (G1.out.below.trans (hg.below.mono (by simp)))
  have hz : w.heap.size < w2.heap.size := by have := hg.below.size; simp at this; omega
  have q0 : w2.cell? ⟨w.heap.size, 0, none⟩ = some (.int .i64 0) := (hg.below.cell (p := ⟨w.heap.size, 0, none⟩) (by simp)).trans (by simp)
  have q1 : w2.cell? ⟨w.heap.size, 1, none⟩ = some (.int .i64 0) := (hg.below.cell (p := ⟨w.heap.size, 1, none⟩) (by simp)).trans (by simp)
  have f0 : w2.frozen? ⟨w.heap.size, 0, none⟩ = false := (hg.below.frozen (p := ⟨w.heap.size, 0, none⟩) (by simp)).trans (World.frozen?_alloc_at _ _ _ _ (by simp))
  have f1 : w2.frozen? ⟨w.heap.size, 1, none⟩ = false := (hg.below.frozen (p := ⟨w.heap.size, 1, none⟩) (by simp)).trans (World.frozen?_alloc_at _ _ _ _ (by simp))
  clear hg
  go_wp2_with fail
  exact bodyPost_ret (v := .tuple #[.agg #[.int .i64 ((i : Int) * 64), .int .i64 (((i : Int) + 1) * 64)], .int .i64 0]) (by simp [results, Tryz.results67, go_sem, *]) rfl ⟨rfl, ((HB.out.setCell (Nat.le_refl _) _).setCell (Nat.le_refl _) _).alloc (by simp; omega) _⟩
set_option maxHeartbeats 4000000 in
set_option maxRecDepth 100000 in
theorem at_no (w : World) (d sb n : Nat) (i : Int) (qv av : Value) (h : DB w d sb n qv false av) (hn : n ≤ 4000) (hi : i < 0 ∨ (n : Int) ≤ i) :
    Calls Tryz.prog 67 #[.pointer (some ⟨d, 0, none⟩), .int .i64 i] w fun e w' => e = .returned (.tuple #[.agg #[.int .i64 0, .int .i64 0], .int .i64 1]) ∧ Below w.heap.size w w' := by
  have HP := Lib.hid (fun W (h : DB W d sb n qv false av) => place_no W d sb n i qv av false h hn hi)
  obtain ⟨hd, _, _, c2, _⟩ := h.cells
  have HD := Lib.hid h
  have G1 := Lib.hid (Gr.one w (.cells #[.int .i64 0, .int .i64 0] 86))
  clear h hi
  go_enter Tryz.func67, Tryz.ntmps67
  go_wp2_with fail
  refine (HP.out _ (HD.out.keep G1.out.below)).mono ?_
  rintro e w2 ⟨rfl, hg⟩
  have HB := Lib.hid (G1.out.below.trans (hg.below.mono (by simp)))
  have hz : w.heap.size < w2.heap.size := by have := hg.below.size; simp at this; omega
  have q0 : w2.cell? ⟨w.heap.size, 0, none⟩ = some (.int .i64 0) := (hg.below.cell (p := ⟨w.heap.size, 0, none⟩) (by simp)).trans (by simp)
  have q1 : w2.cell? ⟨w.heap.size, 1, none⟩ = some (.int .i64 0) := (hg.below.cell (p := ⟨w.heap.size, 1, none⟩) (by simp)).trans (by simp)
  have f0 : w2.frozen? ⟨w.heap.size, 0, none⟩ = false := (hg.below.frozen (p := ⟨w.heap.size, 0, none⟩) (by simp)).trans (World.frozen?_alloc_at _ _ _ _ (by simp))
  have f1 : w2.frozen? ⟨w.heap.size, 1, none⟩ = false := (hg.below.frozen (p := ⟨w.heap.size, 1, none⟩) (by simp)).trans (World.frozen?_alloc_at _ _ _ _ (by simp))
  clear hg
  go_wp2_with fail
  exact bodyPost_ret (v := .tuple #[.agg #[.int .i64 0, .int .i64 0], .int .i64 1]) (by simp [results, Tryz.results67, go_sem, *]) rfl ⟨rfl, ((HB.out.setCell (Nat.le_refl _) _).setCell (Nat.le_refl _) _).alloc (by simp; omega) _⟩
set_option maxHeartbeats 4000000 in
set_option maxRecDepth 100000 in
theorem count_nil (w : World) (d sb n : Nat) (qv : Value) (off : Bool) (h : DB w d sb n qv off (.pointer none)) :
    Calls Tryz.prog 99 #[.pointer (some ⟨d, 0, none⟩)] w fun e w' => e = .returned (.int .i64 0) ∧ w = w' := by
  obtain ⟨hd, _, _, _, c3, _⟩ := h.cells
  clear h
  go_enter Tryz.func99, Tryz.ntmps99
  go_wp2_with fail
  go_ret
  exact ⟨rfl, rfl⟩
set_option maxHeartbeats 4000000 in
set_option maxRecDepth 100000 in
theorem count_later (w : World) (d sb n g : Nat) (qv : Value) (off : Bool) (a b c : Int) (h : DB w d sb n qv off (.pointer (some ⟨g, 0, none⟩))) (hg : w.heap[g]? = some (.cells #[.int .i64 a, .int .i64 b, .int .i64 c] 95 (0, 0))) (ha : 0 < a) (ha2 : a ≤ 9223372036854775807) :
    Calls Tryz.prog 99 #[.pointer (some ⟨d, 0, none⟩)] w fun e w' => e = .returned (.int .i64 0) ∧ w' = w.setCell ⟨g, 0, none⟩ (.int .i64 (a - 1)) := by
  obtain ⟨hd, _, _, _, c3, _⟩ := h.cells
  have a0 : w.cell? ⟨g, 0, none⟩ = some (.int .i64 a) := cell_at hg rfl
  have fz := frozen_at hg 0
  clear h hg
  go_enter Tryz.func99, Tryz.ntmps99
  go_wp2_with fail
  go_ret
  exact ⟨rfl, rfl⟩
end Go.Proofs.YtihoomlaggihlaaGreatDoor
