/- The length of a slice of orders out of its datum. Under no condition. -/
import Derived.Test.YtngbkdnkpolbfaaDoorFRW
namespace Go.Proofs.YtngbkdnkpolbfaaDoor
open Go.ChangeShapes Go.WideShapes Go.ChangeAt Go.RowKit Go.Deep
theorem datum_len {H : Type} {enc : TypeId × Value → H} {W : World} {base : Nat} {A : Option Addr} {n c : Nat} {d : DataW H} {p : List MemPlace} (h : DataW.Trod enc Tryd.prog W base (fun _ => true) true 22 (.slice A n c) d p) : n = 0 ∨ ∃ e s, d = .slice e s ∧ e.length = n := by
  obtain ⟨fuel, hf⟩ := h
  rcases open_slice Tryd.underlying22 hf with ⟨hcs, _⟩ | ⟨a, len, cap, m, fl, D, Pl, hcs, hb, hl, hm, hmm, hx, hi⟩
  · left
    simp [Value.cells] at hcs
    exact hcs.2.1
  · right
    simp [Value.cells] at hcs
    obtain ⟨_, rfl, _⟩ := hcs
    injection hx with hd
    exact ⟨_, _, hd, by simp⟩
end Go.Proofs.YtngbkdnkpolbfaaDoor
