/- From the condition of the row to the tables and variables in memory. Under no condition. -/
import Derived.Test.YtjebbmnjegndkaaGreatDoorTb
import Derived.Test.YtjebbmnjegndkaaGreatDoorK
import Derived.Test.YtjebbmnjegndkaaGreatDoorLb
import Derived.HandedShaped
import Derived.Stop.LaidErr
import Derived.Lay
namespace Go.Proofs.YtjebbmnjegndkaaGreatDoor
open Go.ChangeShapes Go.WideShapes Go.ChangeAt Go.RowKit

/-- the eight variables that the row lists -/
abbrev laid8 : List (String × DataW Unit) := [("math/bits.deBruijn32tab", Rows.laid_math_bits_deBruijn32tab), ("math/bits.deBruijn64tab", Rows.laid_math_bits_deBruijn64tab), ("internal/strconv.uint64pow10", Rows.laid_internal_strconv_uint64pow10), ("unicode/utf8.acceptRanges", Rows.laid_unicode_utf8_acceptRanges), ("strconv.ErrRange", Rows.laid_strconv_ErrRange), ("strconv.ErrSyntax", Rows.laid_strconv_ErrSyntax), ("gazetteer/date.lengths", Rows.laid_gazetteer_date_lengths), ("unicode/utf8.first", Rows.laid_unicode_utf8_first)]

theorem starred : "*" ++ "errors.errorString" = "*errors.errorString" := by decide
theorem errRow (u : TypeId) (h : Tryz.prog.typeName? 3 u = some "*errors.errorString") : u = 122 :=
  typeName_ptr_named (nm := "errors.errorString") (by rw [starred]; kernel_rfl) (by kernel_rfl) (by decide) u (by rw [starred]; exact h)

theorem laid_of8 {W : World} (h : laidMetH Tryz.prog laid8 W) (hsh : W.ShapedOpen Tryz.prog) : LaidT W := by
  rw [MakeChecks.laidMetH_plain _ _ _ (by kernel_rfl)] at h
  have h2 := h.tail
  have h3 := h2.tail
  have h5 := h3.tail.tail
  have h6 := h5.tail
  have h7 := h6.tail
  have t2 : Lib.TabIs Tryz.prog W "internal/strconv.uint64pow10" .u64 Lib.pow10Tab := Lib.tabIs_of_head (g := 4) (t := 118) (e := 94) (n := 20) (by kernel_rfl) (by kernel_rfl) Tryz.underlying118 Tryz.underlying94 (by kernel_rfl) (by kernel_rfl) (rest := _) h3
  have t3 : Lib.TabIs Tryz.prog W "gazetteer/date.lengths" .i64 [31, 28, 31, 30, 31, 30, 31, 31, 30, 31, 30, 31] := Lib.tabIs_of_head (g := 0) (t := 60) (e := 3) (n := 12) (by kernel_rfl) (by kernel_rfl) Tryz.underlying60 Tryz.underlying3 (by kernel_rfl) (by kernel_rfl) (rest := _) h7
  obtain ⟨a1, s1, hv1, -, -, -⟩ := laid_sentinel (g := 2) (ti := 50) (te := 124) h5 (by kernel_rfl) (by kernel_rfl) Tryz.underlying50 errRow Tryz.underlying122 Tryz.underlying124 rfl rfl Tryz.underlying9 (by kernel_rfl) (by kernel_rfl)
  obtain ⟨a2, s2, hv2, -, -, -⟩ := laid_sentinel (g := 1) (ti := 50) (te := 124) h6 (by kernel_rfl) (by kernel_rfl) Tryz.underlying50 errRow Tryz.underlying122 Tryz.underlying124 rfl rfl Tryz.underlying9 (by kernel_rfl) (by kernel_rfl)
  obtain ⟨ps, ⟨g', t', cs, fuel, p, q, hg', ht', hvar, hd, _, _⟩, _⟩ := h2
  have hg8 : Tryz.prog.globalNamed "math/bits.deBruijn64tab" = some 8 := by kernel_rfl
  obtain rfl := Option.some.inj (hg8.symm.trans hg')
  refine ⟨⟨fun k hk => ?_, t2, ?_⟩, ⟨_, by have h0 := World.var?_cell (g := 1) (by kernel_rfl) hv2 0; simpa using h0, Or.inr ⟨_, _, rfl⟩⟩, ⟨_, by have h0 := World.var?_cell (g := 2) (by kernel_rfl) hv1 0; simpa using h0, Or.inr ⟨_, _, rfl⟩⟩,
    cell_of_shapedOpen_int (zero := #[.int .i64 0]) (t := 3) hsh (of_decide_eq_true (by kernel_rfl)) (by kernel_rfl) rfl (by kernel_rfl) (by kernel_rfl) Tryz.underlying3⟩
  · have := t3.cell (g := 0) (by kernel_rfl) k (by simpa using hk)
    rw [this]; rfl
  · unfold World.var? at hvar
    rw [hg8] at hvar
    rcases Nat.lt_or_ge 8 W.heap.size with hlt | hge
    · omega
    · simp only [Option.bind_some] at hvar
      rw [Array.getElem?_eq_none hge] at hvar; cases hvar

set_option maxRecDepth 100000 in
theorem door_met8 (os : Os) (args : Array Value) : laidMetH Tryz.prog laid8 ((World.laidAll Tryz.prog os laid8).forCall (fun _ _ => 0) ⟨#[], args, []⟩).memory := by
  rw [MakeChecks.laidMetH_plain _ _ _ (by kernel_rfl)]; exact laidMet_laidAll _ (by kernel_rfl) (by kernel_rfl)
end Go.Proofs.YtjebbmnjegndkaaGreatDoor
