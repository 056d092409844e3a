/- The parts of an order's text. Under the condition that the library's variables lie in memory as the program lays them. -/
import Derived.Test.YtngbkdnkpolbfaaDoorFL
import Derived.Test.YtngbkdnkpolbfaaDoorDV
namespace Go.Proofs.YtngbkdnkpolbfaaDoor
open Go.RowKit Go.Maps

/-- the words of a text -/
def wds (s : ByteArray) : List ByteArray := Lib.splitB ⟨#[32]⟩ 0 (Lib.countB s ⟨#[32]⟩) s
theorem words_any (s : ByteArray) (w : World) (hs : s.size ≤ 300) (hL : LaidT w) : Calls Tryd.prog 36 #[.string s, .string ⟨#[32]⟩] w fun e w' =>
    e = .returned (.slice (some ⟨w.heap.size, 0, none⟩) (Lib.countB s ⟨#[32]⟩ + 1) (Lib.countB s ⟨#[32]⟩ + 1)) ∧ w' = w.alloc (.cells ((wds s).map Value.string).toArray 9) := by
  obtain ⟨_, _, _, m, c3⟩ := hL
  have := Any.strings_Split Tryd.lays146 (by kernel_rfl) s ⟨#[32]⟩ m w (by omega) c3 (by decide)
  exact this
end Go.Proofs.YtngbkdnkpolbfaaDoor
