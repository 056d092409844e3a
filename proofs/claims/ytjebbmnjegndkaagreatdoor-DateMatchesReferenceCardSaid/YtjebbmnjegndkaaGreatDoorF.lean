/- The contract of Union. Under no condition. -/
import Derived.Test.YtjebbmnjegndkaaGreatDoorE
import Derived.Shelf.SlSortCmp.NoneTotal
namespace Go.Proofs.YtjebbmnjegndkaaGreatDoor
open Go.RowKit

theorem contains_none (A : Option Addr) (c : Nat) (w : World) : Calls Tryz.prog 31 #[.slice A 0 c, .func (.func 32) #[] #[]] w fun e w' => e = .returned (.bool false) ∧ w = w' := by
  go_enter Tryz.func31, Tryz.ntmps31
  go_wp2
  go_loop [8] (fun i => i = .int .i64 0) (fun _ => 0)
  case atStart => rfl
  case round =>
    obtain rfl := hrel
    go_wp2
    go_ret
    exact ⟨rfl, rfl⟩
theorem clone_none (A : Option Addr) (c : Nat) (w : World) : Calls Tryz.prog 34 #[.slice A 0 c] w fun e w' => (∃ A' c', e = .returned (.slice A' 0 c')) ∧ Below w.heap.size w w' := by
  cases A with
  | none =>
    refine (AnyE.slices_Clone_nil Tryz.cloneP 0 c w).mono ?_
    rintro e w' ⟨rfl, rfl⟩
    exact ⟨⟨_, _, rfl⟩, Below.refl _ _⟩
  | some a =>
    have q36 : ∀ (w : World) (a : Option Addr) (n c n' c' : Nat), (binOp .eql 34 (.slice a n c) (.slice none n' c')).run Tryz.prog w = .ok (.bool a.isNone) w := fun w a n c n' c' => Lib.run_eql_slice_nil w _ _ a n c n' c' Tryz.underlying34
    go_enter Tryz.func34, Tryz.ntmps34
    go_wp2
    go_ret
    exact ⟨⟨_, _, rfl⟩, (Below.refl _ _).alloc (Nat.le_refl _) _⟩

set_option maxHeartbeats 1000000 in
theorem union_none (A : Option Addr) (c : Nat) (w : World) : Calls Tryz.prog 17 #[.slice A 0 c] w fun e w' => e = .returned (.tuple #[.slice none 0 0, .int .i64 0]) ∧ Below w.heap.size w w' := by
  go_enter Tryz.func17, Tryz.ntmps17
  go_wp2_with fail
  refine (contains_none _ _ _).mono ?_
  rintro e w' ⟨rfl, rfl⟩
  go_wp2_with fail
  refine (clone_none _ _ _).mono ?_
  rintro e w1 ⟨⟨A', c', rfl⟩, hb⟩
  go_wp2_with fail
  refine (AnyF.slices_SortFunc_none { Tryz.sortP with } A' c' _ w1).mono ?_
  rintro e w' ⟨rfl, hw⟩
  subst hw
  go_wp2_with fail
  go_loop [5, 20] (fun v i => v = .slice none 0 0 ∧ i = .int .i64 0) (fun _ _ => 0)
  case atStart => exact ⟨rfl, rfl⟩
  case round =>
    obtain ⟨rfl, rfl⟩ := hrel
    go_wp2
    go_ret2
    exact ⟨rfl, hb⟩

/-- what the loop of Union has made of the first k sorted periods -/
def URel (W0 : World) (s : List (Int × Int)) (v : Value) (k : Nat) (wr : World) : Prop :=
  wr.ownsRow W0.heap.size 38 2 v ((s.take k).foldl rst []).length (flat ((s.take k).foldl rst []).reverse) ∧ Below W0.heap.size W0 wr
end Go.Proofs.YtjebbmnjegndkaaGreatDoor
