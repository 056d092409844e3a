/- What a round of Settle's second loop holds while it appends. Under no condition. -/
import Derived.Test.YtngbkdnkpolbfaaDoorFH
import Derived.Deep.AppendLies
namespace Go.Proofs.YtngbkdnkpolbfaaDoor
open Go.RowKit Go.Maps

theorem Gr.grownBy {w w' : World} (h : Gr w w') (row : Option Nat) : w.grownBy w' row := by
  have hb := h.below
  exact ⟨hb.os, hb.tape, hb.output, hb.size, fun i hi _ => hb.block i hi⟩
theorem own_map_ne {w : World} {base e size n b m : Nat} {v : Value} {xs : List Value} {f : ByteArray → Option Value} (h : w.ownsRow base e size v n xs) (hm : MapIs w b m f) : v.ownBlock ≠ some b := by
  obtain ⟨D, ⟨es, clock, hb, _⟩, _⟩ := hm
  rcases h.2 with ⟨rfl, _⟩ | ⟨g, cap, cur, rfl, _, hg, _⟩
  · simp [Value.ownBlock]
  · intro he
    have : g = b := by simpa [Value.ownBlock] using he
    subst this
    rw [hb] at hg; cases hg
theorem own_own_ne {w : World} {base base' e e' size size' n n' : Nat} {v v' : Value} {xs xs' : List Value} (h : w.ownsRow base e size v n xs) (h' : w.ownsRow base' e' size' v' n' xs') (hne : e ≠ e') : v.ownBlock = none ∨ v.ownBlock ≠ v'.ownBlock := by
  rcases h.2 with ⟨rfl, _⟩ | ⟨g, cap, cur, rfl, _, hg, _⟩
  · left; rfl
  · right
    rcases h'.2 with ⟨rfl, _⟩ | ⟨g', cap', cur', rfl, _, hg', _⟩
    · simp [Value.ownBlock]
    · intro he
      have : g = g' := by simpa [Value.ownBlock] using he
      subst this
      rw [hg] at hg'
      injection hg' with hg'
      injection hg' with _ ht
      exact hne ht
theorem Blk6.far {w w' : World} {b : Nat} {o : Ord} {row : Option Nat} (h : Blk6 w b o) (hg : w.grownBy w' row) (hne : some b ≠ row) : Blk6 w' b o := by
  have hb := hg.block b h.1 hne
  have k : ∀ j, w'.cell? ⟨b, j, none⟩ = w.cell? ⟨b, j, none⟩ := fun j => by simp [World.cell?, hb]
  obtain ⟨h1, ⟨c0, c1, c2, c3, c4, c5⟩, h3⟩ := h
  exact ⟨Nat.lt_of_lt_of_le h1 hg.size, ⟨(k _).trans c0, (k _).trans c1, (k _).trans c2, (k _).trans c3, (k _).trans c4, (k _).trans c5⟩, fun j => by have := h3 j; simp [World.frozen?, hb] at this ⊢; exact this⟩
/-- two rows of the call's own, two maps and an order's block -/
def Inv (w : World) (o : Ord) (b mp n : Nat) (fp : ByteArray → Option Value) (mc m : Nat) (fc : ByteArray → Option Value) (v : Value) (k : Nat) (xs : List Value) (v' : Value) (k' : Nat) (xs' : List Value) (wx : World) : Prop :=
  wx.ownsRow w.heap.size 26 6 v k xs ∧ wx.ownsRow w.heap.size 9 1 v' k' xs' ∧ MapIs wx mp n fp ∧ MapIs wx mc m fc ∧ Below w.heap.size w wx ∧ Blk6 wx b o ∧ some b ≠ v.ownBlock ∧ some b ≠ v'.ownBlock
section
variable {w : World} {o : Ord} {b mp n : Nat} {fp : ByteArray → Option Value} {mc m : Nat} {fc : ByteArray → Option Value} {v : Value} {k : Nat} {xs : List Value} {v' : Value} {k' : Nat} {xs' : List Value} {wx wy : World}
theorem Inv.gr (h : Inv w o b mp n fp mc m fc v k xs v' k' xs' wx) (g : Gr wx wy) : Inv w o b mp n fp mc m fc v k xs v' k' xs' wy := by
  obtain ⟨h1, h2, h3, h4, h5, h6, h7, h8⟩ := h
  exact ⟨h1.kept (g.grownBy none) (by cases v.ownBlock <;> simp), h2.kept (g.grownBy none) (by cases v'.ownBlock <;> simp), h3.keep g.below, h4.keep g.below, h5.trans (g.below.mono h5.size), h6.keep g, h7, h8⟩
theorem Inv.app (h : Inv w o b mp n fp mc m fc v k xs v' k' xs' wx) {g cap K : Nat} {ys : List Value} (ho : wy.ownsRow w.heap.size 26 6 (.slice (some ⟨g, 0, none⟩) K cap) K ys) (hg : wx.grownBy wy v.ownBlock) (hl : v.ownBlock = some g ∨ g = wx.heap.size) : Inv w o b mp n fp mc m fc (.slice (some ⟨g, 0, none⟩) K cap) K ys v' k' xs' wy := by
  obtain ⟨h1, h2, h3, h4, h5, h6, h7, h8⟩ := h
  refine ⟨ho, h2.kept hg (own_own_ne h2 h1 (by decide)), h3.same (hg.block mp h3.lt (own_map_ne h1 h3).symm), h4.same (hg.block mc h4.lt (own_map_ne h1 h4).symm), h5.grown hg h5.size (fun q hq => (h1.lt q hq).1), h6.far hg h7, ?_, h8⟩
  rcases hl with hl | hl
  · rw [hl] at h7; exact h7
  · subst hl
    intro e
    have : b = wx.heap.size := by simpa [Value.ownBlock] using e
    have := h6.1; omega
theorem Inv.app' (h : Inv w o b mp n fp mc m fc v k xs v' k' xs' wx) {g cap K : Nat} {ys : List Value} (ho : wy.ownsRow w.heap.size 9 1 (.slice (some ⟨g, 0, none⟩) K cap) K ys) (hg : wx.grownBy wy v'.ownBlock) (hl : v'.ownBlock = some g ∨ g = wx.heap.size) : Inv w o b mp n fp mc m fc v k xs (.slice (some ⟨g, 0, none⟩) K cap) K ys wy := by
  obtain ⟨h1, h2, h3, h4, h5, h6, h7, h8⟩ := h
  refine ⟨h1.kept hg (own_own_ne h1 h2 (by decide)), ho, h3.same (hg.block mp h3.lt (own_map_ne h2 h3).symm), h4.same (hg.block mc h4.lt (own_map_ne h2 h4).symm), h5.grown hg h5.size (fun q hq => (h2.lt q hq).1), h6.far hg h8, h7, ?_⟩
  rcases hl with hl | hl
  · rw [hl] at h8; exact h8
  · subst hl
    intro e
    have : b = wx.heap.size := by simpa [Value.ownBlock] using e
    have := h6.1; omega
end
theorem news6 {w : World} {o : Ord} {j : Nat} {u : Value} (h : (flatO [o])[j]? = some u) : (w.alloc (.cells (encO o) 26)).cell? ((⟨w.heap.size, 0, none⟩ : Addr).add j) = some u := by
  rw [flatO_one] at h
  rw [Addr.add_lit, Nat.zero_add]
  match j, h with
  | 0, h => simp at h; subst h; simp
  | 1, h => simp at h; subst h; simp
  | 2, h => simp at h; subst h; simp
  | 3, h => simp at h; subst h; simp
  | 4, h => simp at h; subst h; simp
  | 5, h => simp at h; subst h; simp
  | j + 6, h => simp at h
theorem news1 {w : World} {s : ByteArray} {j : Nat} {u : Value} (h : (strs [s])[j]? = some u) : (w.alloc (.cells #[.string s] 9)).cell? ((⟨w.heap.size, 0, none⟩ : Addr).add j) = some u := by
  match j, h with
  | 0, h => simp [strs] at h; subst h; simp [Addr.add]
  | j + 1, h => simp [strs] at h
theorem cell_on {w : World} {a : Addr} {u : Value} (h : w.cell? a = some u) (o : Obj) : (w.alloc o).cell? a = some u := Lib.cell?_alloc_some _ h
end Go.Proofs.YtngbkdnkpolbfaaDoor
