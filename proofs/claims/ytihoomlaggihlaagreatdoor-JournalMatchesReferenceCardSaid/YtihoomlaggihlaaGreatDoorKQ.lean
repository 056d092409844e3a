/- Append's two rows of sectors in memory, as its first loop makes them: plain facts. Under no condition. -/
import Derived.Test.YtihoomlaggihlaaGreatDoorKO
namespace Go.Proofs.YtihoomlaggihlaaGreatDoor
open Go.RowKit

theorem sects_snoc : ∀ (l : List (List UInt8)) (p : Nat) (t : List UInt8), sects p (l ++ [t]) = sects p l ++ [sectP (p + l.length) t]
  | [], _, _ => rfl
  | x :: l, p, t => by
    rw [List.cons_append, sects, sects, sects_snoc l (p + 1) t, List.cons_append, show p + 1 + l.length = p + (x :: l).length by rw [List.length_cons]; omega]
theorem sects_take (ps : List (List UInt8)) (p k : Nat) (hk : k < ps.length) : sects p (ps.take (k + 1)) = sects p (ps.take k) ++ [sectP (p + k) ps[k]] := by
  rw [← List.take_append_getElem hk, sects_snoc, List.length_take, Nat.min_eq_left (Nat.le_of_lt hk)]
theorem strs_snoc (l : List (List UInt8)) (t : List UInt8) : strs (l ++ [t]) = strs l ++ [.string ⟨t.toArray⟩] := by simp [strs]
/-- the rows of zeros and of sectors, some of each made -/
structure RW (wo : World) (c : Nat) (ps : List (List UInt8)) (k8 k9 : Nat) (v8 v9 : Value) (w : World) : Prop where
  bel : Below wo.heap.size wo w
  h8 : w.heap[wo.heap.size]? = some (.cells #[v8] 26 (0, 0))
  h9 : w.heap[wo.heap.size + 1]? = some (.cells #[v9] 26 (0, 0))
  o8 : w.ownsRow wo.heap.size 9 1 v8 k8 (strs (List.replicate k8 zeroT))
  o9 : w.ownsRow wo.heap.size 9 1 v9 k9 (strs (sects (2 + c) (ps.take k9)))
  dj : ∀ x, v8.ownBlock = some x → v9.ownBlock = some x → False
theorem RW.start (wo : World) (c : Nat) (ps : List (List UInt8)) : RW wo c ps 0 0 (.slice none 0 0) (.slice none 0 0) ((wo.alloc (.cells #[.slice none 0 0] 26)).alloc (.cells #[.slice none 0 0] 26)) := by
  refine ⟨((Below.refl _ _).alloc (Nat.le_refl _) _).alloc (by simp) _, ?_, ?_, World.ownsRow_nil _ _ _ _, World.ownsRow_nil _ _ _ _, fun x h => by cases h⟩
  · rw [Below.heap_alloc _ _ _ (by simp)]
    exact heap_alloc_new _ _
  · have := heap_alloc_new (wo.alloc (.cells #[.slice none 0 0] 26)) (.cells #[.slice none 0 0] 26)
    rwa [show (wo.alloc (.cells #[.slice none 0 0] 26)).heap.size = wo.heap.size + 1 by simp] at this
theorem RW.keep {wo : World} {c : Nat} {ps : List (List UInt8)} {k8 k9 : Nat} {v8 v9 : Value} {w w' : World} (h : RW wo c ps k8 k9 v8 v9 w) (hb : Below w.heap.size w w') : RW wo c ps k8 k9 v8 v9 w' :=
  ⟨h.bel.trans (hb.mono h.bel.size), (hb.block _ (heap_lt h.h8)).trans h.h8, (hb.block _ (heap_lt h.h9)).trans h.h9, own_below h.o8 hb, own_below h.o9 hb, h.dj⟩
theorem RW.step8 {wo : World} {c : Nat} {ps : List (List UInt8)} {k8 k9 g cap : Nat} {v8 v9 : Value} {W w5 : World} (h : RW wo c ps k8 k9 v8 v9 W)
    (o5 : w5.ownsRow wo.heap.size 9 1 (.slice (some ⟨g, 0, none⟩) (k8 + 1) cap) (k8 + 1) (strs (List.replicate k8 zeroT) ++ [.string ⟨zeroT.toArray⟩])) (g5 : W.grownBy w5 v8.ownBlock) (l5 : v8.ownBlock = some g ∨ g = W.heap.size) :
    RW wo c ps (k8 + 1) k9 (.slice (some ⟨g, 0, none⟩) (k8 + 1) cap) v9 (w5.setCell ⟨wo.heap.size, 0, none⟩ (.slice (some ⟨g, 0, none⟩) (k8 + 1) cap)) := by
  have b8 := grown_heap g5 h.h8 (own_tag h.o8 h.h8 (by decide))
  have b9 := grown_heap g5 h.h9 (own_tag h.o8 h.h9 (by decide))
  have b9o : w5.ownsRow wo.heap.size 9 1 v9 k9 (strs (sects (2 + c) (ps.take k9))) := (Out.grown (F := fun k => v8.ownBlock = some k) g5 (fun k e => e)).own h.o9 (fun k hk e => h.dj k e hk)
  have o1 : Out (· = wo.heap.size) w5 (w5.setCell ⟨wo.heap.size, 0, none⟩ (.slice (some ⟨g, 0, none⟩) (k8 + 1) cap)) := Out.set w5 (a := ⟨wo.heap.size, 0, none⟩) _ rfl
  refine ⟨(h.bel.grown g5 h.bel.size (fun k hk => (h.o8.lt k hk).1)).setCell (Nat.le_refl _) _, ?_, o1.heap b9 (by simp), ?_, ?_, ?_⟩
  · exact one_setCell b8
  · rw [List.replicate_succ', strs_snoc]
    exact o1.own o5 (fun k hk e => by subst e; exact own_tag o5 b8 (by decide) hk)
  · exact o1.own b9o (fun k hk e => by subst e; exact own_tag b9o b8 (by decide) hk)
  · intro x hx hx9
    simp only [Value.ownBlock, Option.some.injEq] at hx
    subst hx
    rcases l5 with l5 | l5
    · exact h.dj _ l5 hx9
    · have := (h.o9.lt _ hx9).2
      omega
theorem RW.step9 {wo : World} {c : Nat} {ps : List (List UInt8)} {k8 k9 g cap : Nat} {v8 v9 : Value} {W w5 : World} (h : RW wo c ps k8 k9 v8 v9 W) (hk : k9 < ps.length)
    (o5 : w5.ownsRow wo.heap.size 9 1 (.slice (some ⟨g, 0, none⟩) (k9 + 1) cap) (k9 + 1) (strs (sects (2 + c) (ps.take k9)) ++ [.string ⟨(sectP (2 + c + k9) ps[k9]).toArray⟩])) (g5 : W.grownBy w5 v9.ownBlock) (l5 : v9.ownBlock = some g ∨ g = W.heap.size) :
    RW wo c ps k8 (k9 + 1) v8 (.slice (some ⟨g, 0, none⟩) (k9 + 1) cap) (w5.setCell ⟨wo.heap.size + 1, 0, none⟩ (.slice (some ⟨g, 0, none⟩) (k9 + 1) cap)) := by
  have b8 := grown_heap g5 h.h8 (own_tag h.o9 h.h8 (by decide))
  have b9 := grown_heap g5 h.h9 (own_tag h.o9 h.h9 (by decide))
  have b8o : w5.ownsRow wo.heap.size 9 1 v8 k8 (strs (List.replicate k8 zeroT)) := (Out.grown (F := fun k => v9.ownBlock = some k) g5 (fun k e => e)).own h.o8 (fun k hk e => h.dj k hk e)
  have o1 : Out (· = wo.heap.size + 1) w5 (w5.setCell ⟨wo.heap.size + 1, 0, none⟩ (.slice (some ⟨g, 0, none⟩) (k9 + 1) cap)) := Out.set w5 (a := ⟨wo.heap.size + 1, 0, none⟩) _ rfl
  refine ⟨(h.bel.grown g5 h.bel.size (fun k hk => (h.o9.lt k hk).1)).setCell (Nat.le_succ _) _, o1.heap b8 (by simp), ?_, ?_, ?_, ?_⟩
  · exact one_setCell b9
  · exact o1.own b8o (fun k hk e => by subst e; exact own_tag b8o b9 (by decide) hk)
  · rw [sects_take _ _ _ hk, strs_snoc]
    exact o1.own o5 (fun k hk e => by subst e; exact own_tag o5 b9 (by decide) hk)
  · intro x hx8 hx
    simp only [Value.ownBlock, Option.some.injEq] at hx
    subst hx
    rcases l5 with l5 | l5
    · exact h.dj _ hx8 l5
    · have := (h.o8.lt _ hx8).2
      omega
end Go.Proofs.YtihoomlaggihlaaGreatDoor
