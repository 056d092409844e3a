/- From the rows' condition to the tables in memory; the last step of a law's row. Under no condition. -/
import Derived.Test.YtjebbmnjegndkaaGreatDoorT
import Derived.ProofKit
import Derived.LaidMore
import Derived.OpenShut
import Derived.Stop.Joined
import Derived.Stop.LaidErr
import Derived.Lib.LaidTab
namespace Go.Proofs.YtjebbmnjegndkaaGreatDoor
open Go.ChangeShapes Go.WideShapes Go.ChangeAt Go.RowKit

theorem own : ownKnob Tryz.prog.godebug = none := by kernel_rfl
/-- the four tables that every row lists -/
abbrev laid4 : List (String × DataW Unit) := [("math/bits.deBruijn32tab", Rows.laid_math_bits_deBruijn32tab), ("math/bits.deBruijn64tab", Rows.laid_math_bits_deBruijn64tab), ("internal/strconv.uint64pow10", Rows.laid_internal_strconv_uint64pow10), ("gazetteer/date.lengths", Rows.laid_gazetteer_date_lengths)]

theorem door_met (os : Os) (args : Array Value) : laidMetH Tryz.prog laid4 ((World.doorLaid Tryz.prog 400 os).forCall (fun _ _ => 0) ⟨#[], args, []⟩).memory :=
  laidMetH_of_parts3 (fuel := 8) (laidMet_of_run' 8 (by kernel_rfl) (by kernel_rfl)) (by kernel_rfl) (by kernel_rfl)

theorem laid_of {W : World} (h : laidMetH Tryz.prog laid4 W) : Laid W := by
  rw [MakeChecks.laidMetH_plain _ _ _ (by kernel_rfl)] at h
  have h2 := h.tail
  have h3 := h2.tail
  have h4 := h3.tail
  have t2 : Lib.TabIs Tryz.prog W "internal/strconv.uint64pow10" .u64 Lib.pow10Tab := Lib.tabIs_of_head (g := 4) (t := 118) (e := 94) (n := 20) (by kernel_rfl) (by kernel_rfl) Tryz.underlying118 Tryz.underlying94 (by kernel_rfl) (by kernel_rfl) (rest := [("gazetteer/date.lengths", Rows.laid_gazetteer_date_lengths)]) h3
  have t3 : Lib.TabIs Tryz.prog W "gazetteer/date.lengths" .i64 [31, 28, 31, 30, 31, 30, 31, 31, 30, 31, 30, 31] := Lib.tabIs_of_head (g := 0) (t := 60) (e := 3) (n := 12) (by kernel_rfl) (by kernel_rfl) Tryz.underlying60 Tryz.underlying3 (by kernel_rfl) (by kernel_rfl) (rest := []) h4
  obtain ⟨ps, ⟨g', t', cs, fuel, p, q, hg', ht', hvar, hd, _, _⟩, _⟩ := h2
  have hg8 : Tryz.prog.globalNamed "math/bits.deBruijn64tab" = some 8 := by kernel_rfl
  obtain rfl := Option.some.inj (hg8.symm.trans hg')
  refine ⟨fun k hk => ?_, t2, ?_⟩
  · have := t3.cell (g := 0) (by kernel_rfl) k (by simpa using hk)
    rw [this]; rfl
  · unfold World.var? at hvar
    rw [hg8] at hvar
    rcases Nat.lt_or_ge 8 W.heap.size with hlt | hge
    · omega
    · simp only [Option.bind_some] at hvar
      rw [Array.getElem?_eq_none hge] at hvar; cases hvar

section
variable {H : Type} {enc : TypeId × Value → H}
/-- a law's last step: it has returned true, and all that lay in memory is as it was -/
theorem law_post {f : Func} {s : ChangeSpec} {W W' : World} {args : Array Value} {ds : List (DataW H)} {before : List MemPlace}
    (hW : DataW.Whole enc Tryz.prog f.params.toList s.vars false W args.toList ds [] before) (hvs : s.vars = []) (hR : f.resultTypes = #[4])
    (hfn : s.fn H (ds ++ []) = { results := [.lit (.bool true)], args := ds })
    (hargs : ∀ sp : Nat → Bool, (∀ p ∈ before, sp p.block = true) → DataW.TrodAll enc Tryz.prog W' 0 sp true f.params.toList args.toList ds before)
    (hb : Below W.heap.size W W') : s.post enc Tryz.prog f false true false false W args (.bool true) W' := by
  have hlt : ∀ p ∈ before, p.block < W.heap.size := fun p hp => hW.lt p hp
  have hold : ∀ p ∈ before, (fun b => decide (b < W.heap.size)) p.block = true := fun p hp => by simpa using hlt p hp
  refine ⟨ds, [], before, [], before, [], hW, ?_, ?_, ?_, World.keptBut_mono (fun p hp => ⟨hp, Or.inr (by simpa using hp)⟩) (hb.frame (· ∈ before)), fun h => by cases h⟩
  · rw [hfn, hR]; exact trodAll_mk1 (shut_bool Tryz.underlying4 _)
  · rw [hfn]; exact hargs _ hold
  · rw [hfn, hvs]; rfl
end
end Go.Proofs.YtjebbmnjegndkaaGreatDoor
