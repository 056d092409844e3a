/- Plain facts of the examples: where the mail goes, whose text is which. Under no condition. -/
import Derived.Test.YtngbkdnkpolbfaaDoorFS
import Derived.Test.YtngbkdnkpolbfaaDoorFR
namespace Go.Proofs.YtngbkdnkpolbfaaDoor
open Go.RowKit Go.Maps

/-- the examples' orders -/
abbrev ex1 : Ord := ⟨⟨#[111, 49]⟩, annaT, ⟨#[100, 49]⟩, ⟨#[100, 50]⟩, 0, -1⟩
abbrev ex2 : Ord := ⟨⟨#[111, 50]⟩, annaT, ⟨#[100, 50]⟩, ⟨#[100, 51]⟩, 0, -1⟩
abbrev ex3 : Ord := ⟨⟨#[111, 51]⟩, annaT, ⟨#[100, 51]⟩, ⟨#[100, 49]⟩, 5, -1⟩
theorem own_cnt (pn : ByteArray) (day : Int) (l : List Ord) : Own Ord.fr (cntO pn day l) := fun x o h => ((cnt_spec Ord.fr nwB (actB pn day) so_nw l).2 x o h).2.2.1
theorem ex_a : Ends Ord.fr Ord.to nwB (cntO annaT 3 [ex1, ex2]) ⟨#[100, 49]⟩ [ex1, ex2] ⟨#[100, 51]⟩ :=
  ⟨⟨by kernel_rfl, by kernel_rfl, trivial⟩, by decide +kernel, Or.inl ⟨by kernel_rfl, rfl⟩⟩
theorem ex_b : Ends Ord.fr Ord.to nwB (cntO ⟨#[101, 118, 97]⟩ 3 [ex1, ex2]) ⟨#[100, 49]⟩ [] ⟨#[100, 49]⟩ :=
  ⟨trivial, List.nodup_nil, Or.inl ⟨by kernel_rfl, rfl⟩⟩
theorem ex_c : Ends Ord.fr Ord.to nwB (cntO annaT 9 [ex1, ex2, ex3]) ⟨#[100, 50]⟩ [ex2, ex3, ex1] ⟨#[100, 49]⟩ :=
  ⟨⟨by kernel_rfl, by kernel_rfl, by kernel_rfl, trivial⟩, by decide +kernel, Or.inr ⟨[], ex2, [ex3, ex1], rfl, rfl, by kernel_rfl⟩⟩
theorem ex_d : Ends Ord.fr Ord.to nwB (cntO annaT 4 [ex1, ex2, ex3]) ⟨#[100, 50]⟩ [ex2] ⟨#[100, 51]⟩ :=
  ⟨⟨by kernel_rfl, trivial⟩, by decide +kernel, Or.inl ⟨by kernel_rfl, rfl⟩⟩
/-- the text of the third order -/
abbrev exT : ByteArray := ⟨#[111, 114, 100, 101, 114, 32, 111, 51, 32, 97, 110, 110, 97, 32, 100, 51, 32, 100, 49, 32, 49, 56, 48, 48, 45, 48, 49, 45, 48, 54, 32, 45]⟩
theorem ex_t : (⟨(otxt ex3).toArray⟩ : ByteArray) = exT := by kernel_rfl
theorem ex_p : prpL [ex1, ex2, ex3] = true := by kernel_rfl
theorem ex_q : prpL [ex1, ex2, ex3, ex1] = false := by kernel_rfl
theorem ex_p2 : prpL [ex1, ex2] = true := by kernel_rfl
theorem ex_o : oneB ex3 = true := by kernel_rfl
theorem ex_n : Lib.countB ⟨exT.data.push 32⟩ ⟨#[32]⟩ = 7 := by kernel_rfl
/-- what Settle leaves where it is known where the mail goes -/
def SIs (way : List Ord) (t : ByteArray) (w : World) (e : Ending) (w' : World) : Prop :=
  ∃ (A : Option Addr) (c : Nat), e = .returned (.tuple #[.string t, .slice A way.length c, .int .i64 0]) ∧ way.length ≤ c ∧ RdS w' A (ids way) ∧ Below w.heap.size w w'
theorem SPost.is {pn : ByteArray} {day : Int} {l way : List Ord} {door t : ByteArray} {w : World} (h : Ends Ord.fr Ord.to nwB (cntO pn day l) door way t) (e : Ending) (w' : World) (hp : SPost (cntO pn day l) door w e w') : SIs way t w e w' := by
  obtain ⟨way', t', A, c, he, hE, hc, hR, hB⟩ := hp
  obtain ⟨rfl, rfl⟩ := ends_uniq Ord.fr Ord.to nwB (own_cnt pn day l) h hE
  have hl : (ids way).length = way.length := by simp [ids]
  rw [hl] at he hc
  exact ⟨A, c, he, hc, hR, hB⟩
end Go.Proofs.YtngbkdnkpolbfaaDoor
