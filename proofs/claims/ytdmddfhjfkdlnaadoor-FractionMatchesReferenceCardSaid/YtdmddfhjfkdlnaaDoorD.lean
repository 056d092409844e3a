/- The contract of made. Under no condition but the types' own ranges. -/
import Derived.Test.YtdmddfhjfkdlnaaDoorB
import Derived.OneCell
namespace Go.Proofs.YtdmddfhjfkdlnaaDoor
open Go.RowKit

set_option maxHeartbeats 1000000 in
theorem made_yes (neg : Bool) (n d : Nat) (w : World) (hn : n ≤ 4611686018427387904) (hd : d ≤ 4611686018427387904) :
    Calls Tryd.prog 30 #[.bool neg, .int .u64 n, .int .u64 d] w fun e w' => e = .returned (.tuple #[.agg #[.int .i64 (mdN neg n d), .int .i64 (mdD n d)], .int .i64 (mdE n d)]) ∧ Gr w w' := by
  have hE : mdE n d = 0 := by unfold mdE; rw [if_pos ⟨hn, hd⟩]
  have hD : mdD n d = d := by unfold mdD; rw [if_pos ⟨hn, hd⟩]
  have hN : mdN neg n d = if neg then -(n : Int) else n := by unfold mdN; rw [if_pos ⟨hn, hd⟩]
  rw [hE, hD, hN]
  clear hE hD hN
  have d1 : decide ((4611686018427387904 : Int) < (n : Int)) = false := decide_eq_false (by omega)
  have d2 : decide ((4611686018427387904 : Int) < (d : Int)) = false := decide_eq_false (by omega)
  cases neg
  · go_enter Tryd.func30, Tryd.ntmps30
    go_wp2
    refine bodyPost_ret (v := .tuple #[.agg #[.int .i64 (n : Int), .int .i64 (d : Int)], .int .i64 0]) (by simp [results, Tryd.results30, go_sem]) rfl ⟨rfl, ((Gr.one _ _).alloc _).alloc _⟩
  · go_enter Tryd.func30, Tryd.ntmps30
    go_wp2
    refine bodyPost_ret (v := .tuple #[.agg #[.int .i64 (-(n : Int)), .int .i64 (d : Int)], .int .i64 0]) (by simp [results, Tryd.results30, go_sem]) rfl ⟨rfl, ((Gr.one _ _).alloc _).alloc _⟩
set_option maxHeartbeats 1000000 in
theorem made_no (neg : Bool) (n d : Nat) (w : World) (h : ¬ (n ≤ 4611686018427387904 ∧ d ≤ 4611686018427387904)) (hn : n < 18446744073709551616) (hd : d < 18446744073709551616) :
    Calls Tryd.prog 30 #[.bool neg, .int .u64 n, .int .u64 d] w fun e w' => e = .returned (.tuple #[.agg #[.int .i64 (mdN neg n d), .int .i64 (mdD n d)], .int .i64 (mdE n d)]) ∧ Gr w w' := by
  have hE : mdE n d = 9 := by unfold mdE; rw [if_neg h]
  have hD : mdD n d = 0 := by unfold mdD; rw [if_neg h]
  have hN : mdN neg n d = 0 := by unfold mdN; rw [if_neg h]
  rw [hE, hD, hN]
  clear hE hD hN
  by_cases c : n ≤ 4611686018427387904
  · have d1 : decide ((4611686018427387904 : Int) < (n : Int)) = false := decide_eq_false (by omega)
    have d2 : decide ((4611686018427387904 : Int) < (d : Int)) = true := decide_eq_true (by omega)
    clear h hn hd
    go_enter Tryd.func30, Tryd.ntmps30
    go_wp2
    exact bodyPost_ret (v := .tuple #[.agg #[.int .i64 0, .int .i64 0], .int .i64 9]) (by simp [results, Tryd.results30, go_sem]) rfl ⟨rfl, ((Gr.one _ _).alloc _).alloc _⟩
  · have d1 : decide ((4611686018427387904 : Int) < (n : Int)) = true := decide_eq_true (by omega)
    clear h hn hd
    go_enter Tryd.func30, Tryd.ntmps30
    go_wp2
    exact bodyPost_ret (v := .tuple #[.agg #[.int .i64 0, .int .i64 0], .int .i64 9]) (by simp [results, Tryd.results30, go_sem]) rfl ⟨rfl, ((Gr.one _ _).alloc _).alloc _⟩
theorem made_any (neg : Bool) (n d : Nat) (w : World) (hn : n < 18446744073709551616) (hd : d < 18446744073709551616) :
    Calls Tryd.prog 30 #[.bool neg, .int .u64 n, .int .u64 d] w fun e w' => e = .returned (.tuple #[.agg #[.int .i64 (mdN neg n d), .int .i64 (mdD n d)], .int .i64 (mdE n d)]) ∧ Gr w w' := by
  by_cases h : n ≤ 4611686018427387904 ∧ d ≤ 4611686018427387904
  · exact made_yes neg n d w h.1 h.2
  · exact made_no neg n d w h hn hd
end Go.Proofs.YtdmddfhjfkdlnaaDoor
