/- The contracts of size and divisor. Under no condition but the types' own ranges. -/
import Derived.Test.YtdmddfhjfkdlnaaDoorRows
import Derived.Test.YtdmddfhjfkdlnaaDoorPl
import Derived.WalkKit
import Derived.WalkSpells
import Derived.WalkLawsBesides
import Derived.Deep.QuietTactic
import Derived.BigQuiet
import Derived.Lib.Hide
import Derived.Shelf.SlSortCmp.QuietGrown
import Derived.Lib.AppendIntMem
namespace Go.Proofs.YtdmddfhjfkdlnaaDoor
open Go.RowKit

/-- the world has grown: draws, and blocks behind it -/
def Gr (w w' : World) : Prop := ∃ q os, w' = Sort.grow (w.drewN q) os
theorem Gr.refl (w : World) : Gr w w := ⟨0, #[], by rw [Sort.grow_empty]; rfl⟩
theorem Gr.trans {w w1 w2 : World} (h : Gr w w1) (g : Gr w1 w2) : Gr w w2 := by
  obtain ⟨q, os, rfl⟩ := h
  obtain ⟨q', os', rfl⟩ := g
  exact ⟨q + q', os ++ os', by show Sort.grow (Sort.grow ((w.drewN q).drewN q') os) os' = _; rw [Sort.grow_grow, World.drewN_drewN]⟩
theorem Gr.one (w : World) (o : Obj) : Gr w (w.alloc o) := ⟨0, _, by rw [Sort.alloc_eq_grow]; rfl⟩
theorem Gr.alloc {w w1 : World} (h : Gr w w1) (o : Obj) : Gr w (w1.alloc o) := h.trans (Gr.one w1 o)
theorem Gr.drewN (w : World) (n : Nat) : Gr w (w.drewN n) := ⟨n, #[], by rw [Sort.grow_empty]⟩
theorem Gr.below {w w' : World} (h : Gr w w') : Below w.heap.size w w' := by
  obtain ⟨q, os, rfl⟩ := h
  exact Lib.below_grow _ _ (Nat.le_refl _) _ _

set_option maxHeartbeats 400000 in
theorem size_any (n : Int) (w : World) (h0 : -9223372036854775808 ≤ n) (h1 : n ≤ 9223372036854775807) :
    Calls Tryd.prog 29 #[.int .i64 n] w fun e w' => e = .returned (.int .u64 (n.natAbs : Int)) ∧ w = w' := by
  by_cases h : n < 0
  · go_enter Tryd.func29, Tryd.ntmps29
    go_wp2
    go_ret
    refine ⟨?_, rfl⟩
    show Ending.returned (.int .u64 (IntKind.u64.wrap (-IntKind.u64.wrap n))) = _
    rw [IntKind.wrap_u64, IntKind.wrap_u64]
    congr 2; omega
  · go_enter Tryd.func29, Tryd.ntmps29
    go_wp2
    go_ret
    refine ⟨?_, rfl⟩
    show Ending.returned (.int .u64 n) = _
    congr 2; omega

set_option maxHeartbeats 400000 in
theorem divisor_any (a b : Nat) (w : World) (ha : a < 18446744073709551616) (hb : b < 18446744073709551616) :
    Calls Tryd.prog 28 #[.int .u64 a, .int .u64 b] w fun e w' => e = .returned (.int .u64 ((Nat.gcd a b : Nat) : Int)) ∧ ∃ n, w' = w.drewN n := by
  go_enter Tryd.func28, Tryd.ntmps28
  go_wp2
  go_loopw [0, 1] (fun x y wr => ∃ p q n : Nat, x = .int .u64 p ∧ y = .int .u64 q ∧ p < 18446744073709551616 ∧ q < 18446744073709551616 ∧ Hid (Nat.gcd p q = Nat.gcd a b) ∧ wr = w.drewN n) (fun _ y _ => (intOf y).toNat)
  case atStart => exact ⟨a, b, 0, rfl, rfl, ha, hb, Lib.hid rfl, rfl⟩
  case round =>
    obtain ⟨p, q, n, rfl, rfl, hp, hq, HG, rfl⟩ := hrel
    by_cases c : q = 0
    · subst c
      go_wp2
      go_ret
      refine ⟨?_, n, rfl⟩
      have := HG.out
      rw [Nat.gcd_zero_right] at this
      rw [this]; rfl
    · have c0 : ((q : Int) != 0) = true := by simp [c]
      have c1 : ((q : Int) == 0) = false := by simp [c]
      have hq0 : 0 < q := by omega
      have hlt : p % q < q := Nat.mod_lt _ hq0
      clear c
      go_wp2_with fail
      go_quiet (fail)
      go_wp2_with fail
      go_roundw
      case rel => exact ⟨q, p % q, _, rfl, by go_num, hq, by omega, Lib.hid (by rw [← HG.out, Nat.gcd_comm, ← Nat.gcd_rec, Nat.gcd_comm]), World.drewN_drewN _ _ _⟩
      case measure => simp [intOf]; omega

theorem size_same (n : Int) (w : World) (h0 : -9223372036854775808 ≤ n) (h1 : n ≤ 9223372036854775807) :
    Calls Tryd.prog 29 #[.int .i64 n] w fun e w' => e = .returned (.int .u64 (n.natAbs : Int)) ∧ w' = w :=
  (size_any n w h0 h1).mono fun _ _ ⟨he, hw⟩ => ⟨he, hw.symm⟩
theorem divisor_gr (a b : Nat) (w : World) (ha : a < 18446744073709551616) (hb : b < 18446744073709551616) :
    Calls Tryd.prog 28 #[.int .u64 a, .int .u64 b] w fun e w' => e = .returned (.int .u64 ((Nat.gcd a b : Nat) : Int)) ∧ Gr w w' :=
  (divisor_any a b w ha hb).mono fun _ _ ⟨he, n, hw⟩ => ⟨he, by rw [hw]; exact Gr.drewN _ _⟩

set_option maxHeartbeats 1000000 in
theorem valid_any (n d : Int) (w : World) (h0 : -9223372036854775808 ≤ n) (h1 : n ≤ 9223372036854775807) (k0 : -9223372036854775808 ≤ d) (k1 : d ≤ 9223372036854775807) :
    Calls Tryd.prog 16 #[.agg #[.int .i64 n, .int .i64 d]] w fun e w' => e = .returned (.bool (vld n d)) ∧ Gr w w' := by
  by_cases c1 : 0 < d
  · by_cases c2 : d ≤ 4611686018427387904
    · by_cases c3 : n.natAbs ≤ 4611686018427387904
      · have H := Lib.hid (show vld n d = ((Nat.gcd n.natAbs d.natAbs : Int) == 1) by rw [Bool.eq_iff_iff, vld_iff]; simp; omega)
        have hb : decide ((n.natAbs : Int) ≤ 4611686018427387904) = true := decide_eq_true (by omega)
        go_enter Tryd.func16, Tryd.ntmps16
        go_wp2_with fail
        go_quiet ((first | (go_at_call 29; exact Calls.quiet_of_same (size_same _ _ (by omega) (by omega))) | (go_at_call 28; exact Calls.quiet_of (divisor_any _ _ _ (by omega) (by omega)))))
        go_wp2_with fail
        go_ret
        exact ⟨by rw [H.out]; rfl, (Gr.one _ _).trans (Gr.drewN _ _)⟩
      · have H := Lib.hid (show vld n d = false by rw [← Bool.not_eq_true, vld_iff]; omega)
        have hb : decide ((n.natAbs : Int) ≤ 4611686018427387904) = false := decide_eq_false (by omega)
        go_enter Tryd.func16, Tryd.ntmps16
        go_wp2_with fail
        go_quiet ((first | (go_at_call 29; exact Calls.quiet_of_same (size_same _ _ (by omega) (by omega))) | (go_at_call 28; exact Calls.quiet_of (divisor_any _ _ _ (by omega) (by omega)))))
        go_wp2_with fail
        go_ret
        exact ⟨by rw [H.out]; rfl, (Gr.one _ _).trans (Gr.drewN _ _)⟩
    · have H := Lib.hid (show vld n d = false by rw [← Bool.not_eq_true, vld_iff]; omega)
      have hb : decide (d ≤ 4611686018427387904) = false := decide_eq_false (by omega)
      go_enter Tryd.func16, Tryd.ntmps16
      go_wp2_with fail
      go_quiet ((first | (go_at_call 29; exact Calls.quiet_of_same (size_same _ _ (by omega) (by omega))) | (go_at_call 28; exact Calls.quiet_of (divisor_any _ _ _ (by omega) (by omega)))))
      go_wp2_with fail
      go_ret
      exact ⟨by rw [H.out]; rfl, (Gr.one _ _).trans (Gr.drewN _ _)⟩
  · have H := Lib.hid (show vld n d = false by rw [← Bool.not_eq_true, vld_iff]; omega)
    have hb : decide (0 < d) = false := decide_eq_false (by omega)
    go_enter Tryd.func16, Tryd.ntmps16
    go_wp2_with fail
    go_quiet ((first | (go_at_call 29; exact Calls.quiet_of_same (size_same _ _ (by omega) (by omega))) | (go_at_call 28; exact Calls.quiet_of (divisor_any _ _ _ (by omega) (by omega)))))
    go_wp2_with fail
    go_ret
    exact ⟨by rw [H.out]; rfl, (Gr.one _ _).trans (Gr.drewN _ _)⟩
theorem valid_at {n d : Int} {v : Bool} (h : vld n d = v) (w : World) (h0 : -9223372036854775808 ≤ n) (h1 : n ≤ 9223372036854775807) (k0 : -9223372036854775808 ≤ d) (k1 : d ≤ 9223372036854775807) :
    Calls Tryd.prog 16 #[.agg #[.int .i64 n, .int .i64 d]] w fun e w' => e = .returned (.bool v) ∧ Gr w w' := by
  rw [← h]; exact valid_any n d w h0 h1 k0 k1
end Go.Proofs.YtdmddfhjfkdlnaaDoor
