/- The contract of Add. Under no condition but the types' own ranges. -/
import Derived.Test.YtdmddfhjfkdlnaaDoorF
namespace Go.Proofs.YtdmddfhjfkdlnaaDoor
open Go.RowKit

theorem Blk.use {P : Prop} {w : World} {b : Nat} {x y : Value} (h : Blk w b x y) (k : Hid (Blk w b x y) → b < w.heap.size → w.cell? ⟨b, 0, none⟩ = some x → w.cell? ⟨b, 1, none⟩ = some y → w.frozen? ⟨b, 0, none⟩ = false → w.frozen? ⟨b, 1, none⟩ = false → P) : P :=
  k (Lib.hid h) h.1 h.2.1 h.2.2.1 h.2.2.2.1 h.2.2.2.2
/-- two new blocks that hold two numbers of 128 bits -/
def Two (base : Nat) (W : World) (x1 x2 y1 y2 : Value) (s9 s10 : Value) (wx : World) : Prop :=
  ∃ g1 g2, s9 = .pointer (some ⟨g1, 0, none⟩) ∧ s10 = .pointer (some ⟨g2, 0, none⟩) ∧ base ≤ g1 ∧ base ≤ g2 ∧ g1 ≠ g2 ∧ Blk wx g1 x1 x2 ∧ Blk wx g2 y1 y2 ∧ Below base W wx

theorem Blk.below {w w' : World} {b : Nat} {x y : Value} (h : Blk w b x y) (g : Below w.heap.size w w') : Blk w' b x y :=
  ⟨Nat.lt_of_lt_of_le h.1 g.size, (g.cell (p := ⟨b, 0, none⟩) h.1).trans h.2.1, (g.cell (p := ⟨b, 1, none⟩) h.1).trans h.2.2.1, (g.frozen (p := ⟨b, 0, none⟩) h.1).trans h.2.2.2.1, (g.frozen (p := ⟨b, 1, none⟩) h.1).trans h.2.2.2.2⟩
/-- both cells of a block written -/
theorem Blk.put {w : World} {b : Nat} {x y x' y' : Value} (h : Blk w b x y) : Blk ((w.setCell ⟨b, 0, none⟩ x').setCell ⟨b, 1, none⟩ y') b x' y' := by
  obtain ⟨h1, h2, h3, h4, h5⟩ := h
  refine ⟨by simpa using h1, ?_, ?_, by simpa using h4, by simpa using h5⟩
  · rw [World.cell?_setCell_other _ _ _ _ (by simp)]
    exact World.cell?_setCell_same' _ _ _ (by rw [h2]; rfl)
  · refine World.cell?_setCell_same' _ _ _ ?_
    rw [World.cell?_setCell_other _ _ _ _ (by simp), h3]; rfl
theorem Blk.aside {w : World} {b b' : Nat} {x y x' y' : Value} (h : Blk w b x y) (hne : b ≠ b') : Blk ((w.setCell ⟨b', 0, none⟩ x').setCell ⟨b', 1, none⟩ y') b x y := by
  obtain ⟨h1, h2, h3, h4, h5⟩ := h
  refine ⟨by simpa using h1, ?_, ?_, by simpa using h4, by simpa using h5⟩
  · rw [World.cell?_setCell_other _ _ _ _ (by intro e; injection e with e1 e2; omega), World.cell?_setCell_other _ _ _ _ (by intro e; injection e with e1 e2; omega)]; exact h2
  · rw [World.cell?_setCell_other _ _ _ _ (by intro e; injection e with e1 e2; omega), World.cell?_setCell_other _ _ _ _ (by intro e; injection e with e1 e2; omega)]; exact h3
theorem put_below {base : Nat} {W w : World} {b : Nat} {x' y' : Value} (h : Below base W w) (hb : base ≤ b) : Below base W ((w.setCell ⟨b, 0, none⟩ x').setCell ⟨b, 1, none⟩ y') := (h.setCell hb _).setCell hb _
theorem Two.nn {W w : World} {x1 x2 y1 y2 : Value} (h : Gr W w) : Two W.heap.size W x1 x2 y1 y2 (.pointer (some ⟨w.heap.size, 0, none⟩)) (.pointer (some ⟨w.heap.size + 1, 0, none⟩)) ((w.alloc (.cells #[x1, x2] 48)).alloc (.cells #[y1, y2] 48)) :=
  ⟨_, _, rfl, rfl, h.size, by have := h.size; omega, by omega, (Blk.made _ _ _ _).keep (Gr.one _ _), by simpa using Blk.made (w.alloc (.cells #[x1, x2] 48)) y1 y2 48, ((h.alloc _).alloc _).below⟩
theorem Two.nn' {W w : World} {x1 x2 y1 y2 : Value} (h : Gr W w) : Two W.heap.size W x1 x2 y1 y2 (.pointer (some ⟨w.heap.size + 1, 0, none⟩)) (.pointer (some ⟨w.heap.size, 0, none⟩)) ((w.alloc (.cells #[y1, y2] 48)).alloc (.cells #[x1, x2] 48)) :=
  ⟨_, _, rfl, rfl, by have := h.size; omega, h.size, by omega, by simpa using Blk.made (w.alloc (.cells #[y1, y2] 48)) x1 x2 48, (Blk.made _ _ _ _).keep (Gr.one _ _), ((h.alloc _).alloc _).below⟩
theorem Two.on {W w : World} {x1 x2 y1 y2 z1 z2 : Value} {g : Nat} (h : Gr W w) (hB : Blk w g z1 z2) (hg : W.heap.size ≤ g) : Two W.heap.size W x1 x2 y1 y2 (.pointer (some ⟨g, 0, none⟩)) (.pointer (some ⟨w.heap.size, 0, none⟩)) (((w.setCell ⟨g, 0, none⟩ x1).setCell ⟨g, 1, none⟩ x2).alloc (.cells #[y1, y2] 48)) :=
  ⟨_, _, rfl, rfl, hg, h.size, by have := hB.1; omega, hB.put.keep (Gr.one _ _), by simpa using Blk.made ((w.setCell ⟨g, 0, none⟩ x1).setCell ⟨g, 1, none⟩ x2) y1 y2 48, (put_below h.below hg).alloc (by simpa using h.size) _⟩
theorem Two.no {W w : World} {x1 x2 y1 y2 z1 z2 : Value} {g : Nat} (h : Gr W w) (hB : Blk w g z1 z2) (hg : W.heap.size ≤ g) : Two W.heap.size W x1 x2 y1 y2 (.pointer (some ⟨w.heap.size, 0, none⟩)) (.pointer (some ⟨g, 0, none⟩)) (((w.setCell ⟨g, 0, none⟩ y1).setCell ⟨g, 1, none⟩ y2).alloc (.cells #[x1, x2] 48)) :=
  ⟨_, _, rfl, rfl, h.size, hg, by have := hB.1; omega, by simpa using Blk.made ((w.setCell ⟨g, 0, none⟩ y1).setCell ⟨g, 1, none⟩ y2) x1 x2 48, hB.put.keep (Gr.one _ _), (put_below h.below hg).alloc (by simpa using h.size) _⟩
theorem Two.oo {W w : World} {x1 x2 y1 y2 z1 z2 u1 u2 : Value} {g g' : Nat} (h : Gr W w) (hB : Blk w g z1 z2) (hB' : Blk w g' u1 u2) (hg : W.heap.size ≤ g) (hg' : W.heap.size ≤ g') (hne : g ≠ g') : Two W.heap.size W x1 x2 y1 y2 (.pointer (some ⟨g, 0, none⟩)) (.pointer (some ⟨g', 0, none⟩)) ((((w.setCell ⟨g, 0, none⟩ x1).setCell ⟨g, 1, none⟩ x2).setCell ⟨g', 0, none⟩ y1).setCell ⟨g', 1, none⟩ y2) :=
  ⟨_, _, rfl, rfl, hg, hg', hne, hB.put.aside hne, (hB'.aside (fun e => hne e.symm)).put, put_below (put_below h.below hg) hg'⟩

theorem keep_set {w : World} {b b' o o' : Nat} {v x : Value} (h : w.cell? ⟨b, o, none⟩ = some v) (hlt : b < b') : (w.setCell ⟨b', o', none⟩ x).cell? ⟨b, o, none⟩ = some v := by
  rw [World.cell?_setCell_other _ _ _ _ (by intro e; injection e with e1 e2; omega)]; exact h
theorem Blk.at10 (w : World) (x y : Value) (T : TypeId) (o : Obj) : Blk ((w.alloc o).alloc (.cells #[x, y] T)) (w.heap.size + 1) x y := by simpa using Blk.made (w.alloc o) x y T
theorem Blk.lt {w : World} {b : Nat} {x y : Value} (h : Blk w b x y) : b < w.heap.size := h.1
theorem Blk.k1 {W w : World} {x y : Value} {T : TypeId} (h : Gr (W.drew.alloc (.cells #[x, y] T)) w) : Blk w W.heap.size x y := (Blk.made W.drew x y T).keep h
theorem Blk.k2 {W w : World} {x y : Value} {T : TypeId} {o : Obj} (h : Gr ((W.drew.alloc (.cells #[x, y] T)).alloc o) w) : Blk w W.heap.size x y := ((Blk.made W.drew x y T).keep (Gr.one _ _)).keep h
theorem Blk.k3 {W w : World} {x y : Value} {T : TypeId} {o : Obj} (h : Gr ((W.drew.alloc o).alloc (.cells #[x, y] T)) w) : Blk w (W.heap.size + 1) x y := (Blk.at10 W.drew x y T o).keep h
theorem Blk.j1 {W w : World} {x y : Value} {T : TypeId} (h : Gr (W.alloc (.cells #[x, y] T)) w) : Blk w W.heap.size x y := (Blk.made W x y T).keep h
theorem Blk.j2 {W w : World} {x y : Value} {T : TypeId} {o : Obj} (h : Gr ((W.alloc (.cells #[x, y] T)).alloc o) w) : Blk w W.heap.size x y := ((Blk.made W x y T).keep (Gr.one _ _)).keep h
theorem Blk.j3 {W w : World} {x y : Value} {T : TypeId} {o : Obj} (h : Gr ((W.alloc o).alloc (.cells #[x, y] T)) w) : Blk w (W.heap.size + 1) x y := (Blk.at10 W x y T o).keep h
theorem Gr.g1 {W w : World} (h : Gr W.drew w) : Gr W w := (Gr.drewn _).trans h
theorem Gr.g2 {W w : World} {o : Obj} (h : Gr (W.drew.alloc o) w) : Gr W w := ((Gr.drewn _).alloc _).trans h
theorem Gr.g3 {W w : World} {o o' : Obj} (h : Gr ((W.drew.alloc o).alloc o') w) : Gr W w := (((Gr.drewn _).alloc _).alloc _).trans h
theorem Gr.u2 {W w : World} {o : Obj} (h : Gr (W.alloc o) w) : Gr W w := (Gr.one _ _).trans h
theorem Gr.u3 {W w : World} {o o' : Obj} (h : Gr ((W.alloc o).alloc o') w) : Gr W w := ((Gr.one _ _).alloc _).trans h
end Go.Proofs.YtdmddfhjfkdlnaaDoor
