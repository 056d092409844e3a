/- What an operation leaves alone: all blocks outside a footprint. Under no condition. -/
import Derived.Below
import Derived.Laws.AppendOwn
namespace Go.Proofs.YtihoomlaggihlaaGreatDoor
open Go.RowKit

/-- the world has changed in the blocks of F and in new ones alone -/
structure Out (F : Nat → Prop) (w w' : World) : Prop where
  os : w'.os = w.os
  tape : w'.tape = w.tape
  output : w'.output = w.output
  size : w.heap.size ≤ w'.heap.size
  block : ∀ k, k < w.heap.size → ¬ F k → w'.heap[k]? = w.heap[k]?
theorem Out.refl (F : Nat → Prop) (w : World) : Out F w w := ⟨rfl, rfl, rfl, Nat.le_refl _, fun _ _ _ => rfl⟩
theorem Out.trans {F G : Nat → Prop} {w w' w'' : World} (h : Out F w w') (g : Out G w' w'') (hG : ∀ k, G k → F k ∨ w.heap.size ≤ k) : Out F w w'' :=
  ⟨g.os.trans h.os, g.tape.trans h.tape, g.output.trans h.output, Nat.le_trans h.size g.size, fun k hk hF =>
    (g.block k (Nat.lt_of_lt_of_le hk h.size) (fun e => by
      rcases hG k e with e | e
      · exact hF e
      · omega)).trans (h.block k hk hF)⟩
theorem Out.mono {F G : Nat → Prop} {w w' : World} (h : Out F w w') (hG : ∀ k, k < w.heap.size → F k → G k) : Out G w w' :=
  ⟨h.os, h.tape, h.output, h.size, fun k hk hg => h.block k hk (fun e => hg (hG k hk e))⟩
theorem Out.of_below {F : Nat → Prop} {w w' : World} (h : Below w.heap.size w w') : Out F w w' :=
  ⟨h.os, h.tape, h.output, h.size, fun k hk _ => h.block k hk⟩
theorem Out.below {F : Nat → Prop} {B : Nat} {w w' : World} (h : Out F w w') (hB : B ≤ w.heap.size) (hF : ∀ k, F k → B ≤ k) : Below B w w' :=
  ⟨h.os, h.tape, h.output, h.size, fun k hk => h.block k (by omega) (fun e => by have := hF k e; omega)⟩
theorem Out.grown {F : Nat → Prop} {w w' : World} {row : Option Nat} (h : w.grownBy w' row) (hF : ∀ k, row = some k → F k) : Out F w w' :=
  ⟨h.os, h.tape, h.output, h.size, fun k hk hn => h.block k hk (fun e => hn (hF k e.symm))⟩
theorem Out.set {F : Nat → Prop} (w : World) {a : Addr} (v : Value) (hF : F a.block) : Out F w (w.setCell a v) :=
  ⟨rfl, rfl, rfl, by simp [World.setCell], fun k _ hn => Below.heap_setCell _ _ _ _ (fun e => hn (by rw [e]; exact hF))⟩
theorem Out.heap {F : Nat → Prop} {w w' : World} (h : Out F w w') {k : Nat} {o : Obj} (ho : w.heap[k]? = some o) (hF : ¬ F k) : w'.heap[k]? = some o := by
  have hk : k < w.heap.size := by
    by_cases e : k < w.heap.size
    · exact e
    · rw [Array.getElem?_eq_none (by omega)] at ho; cases ho
  rw [h.block k hk hF]; exact ho
theorem Out.own {F : Nat → Prop} {w w' : World} (h : Out F w w') {base e size n : Nat} {v : Value} {xs : List Value} (ho : w.ownsRow base e size v n xs) (hF : ∀ k, v.ownBlock = some k → ¬ F k) : w'.ownsRow base e size v n xs := by
  refine ⟨ho.1, ?_⟩
  rcases ho.2 with h2 | ⟨g, cap, cur, hv, h1, hg, h3⟩
  · exact Or.inl h2
  · exact Or.inr ⟨g, cap, cur, hv, h1, h.heap hg (hF g (by rw [hv]; rfl)), h3⟩
theorem cell_at {w : World} {b j : Nat} {cs : Array Value} {t : TypeId} (h : w.heap[b]? = some (.cells cs t (0, 0))) {v : Value} (hv : cs[j]? = some v) : w.cell? ⟨b, j, none⟩ = some v := by
  simp [World.cell?, h, hv]
theorem frozen_at {w : World} {b : Nat} {cs : Array Value} {t : TypeId} (h : w.heap[b]? = some (.cells cs t (0, 0))) (j : Nat) : w.frozen? ⟨b, j, none⟩ = false := by
  simp [World.frozen?, h]
end Go.Proofs.YtihoomlaggihlaaGreatDoor
