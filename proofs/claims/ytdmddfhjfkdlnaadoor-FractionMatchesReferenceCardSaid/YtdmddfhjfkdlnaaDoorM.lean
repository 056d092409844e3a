/- The contracts as the laws meet them; the last small functions. Under no condition but the types' own ranges. -/
import Derived.Test.YtdmddfhjfkdlnaaDoorL
import Derived.Test.YtdmddfhjfkdlnaaDoorH
namespace Go.Proofs.YtdmddfhjfkdlnaaDoor
open Go.RowKit

set_option maxHeartbeats 400000 in
theorem of_any (n d : Int) (w : World) : Calls Tryd.prog 26 #[.int .i64 n, .int .i64 d] w fun e w' => e = .returned (.agg #[.int .i64 n, .int .i64 d]) ∧ Gr w w' := by
  go_enter Tryd.func26, Tryd.ntmps26
  go_wp2_with fail
  exact bodyPost_ret (v := .agg #[.int .i64 n, .int .i64 d]) (by simp [results, Tryd.results26, go_sem]) rfl ⟨rfl, Gr.one _ _⟩
/-- whether the terms are at most 1000000000 -/
def sml (n d : Int) : Bool := decide (-1000000000 ≤ n ∧ n ≤ 1000000000 ∧ d ≤ 1000000000)
set_option maxHeartbeats 400000 in
theorem small_any (n d : Int) (w : World) : Calls Tryd.prog 27 #[.agg #[.int .i64 n, .int .i64 d]] w fun e w' => e = .returned (.bool (sml n d)) ∧ Gr w w' := by
  by_cases c1 : -1000000000 ≤ n
  · by_cases c2 : n ≤ 1000000000
    · have H := Lib.hid (show sml n d = decide (d ≤ 1000000000) by unfold sml; simp [c1, c2])
      have d1 : decide (-1000000000 ≤ n) = true := decide_eq_true c1
      have d2 : decide (n ≤ 1000000000) = true := decide_eq_true c2
      go_enter Tryd.func27, Tryd.ntmps27
      go_wp2_with fail
      go_ret
      exact ⟨by rw [H.out]; rfl, Gr.one _ _⟩
    · have H := Lib.hid (show sml n d = false by unfold sml; simp [c2])
      have d1 : decide (-1000000000 ≤ n) = true := decide_eq_true c1
      have d2 : decide (n ≤ 1000000000) = false := decide_eq_false c2
      go_enter Tryd.func27, Tryd.ntmps27
      go_wp2_with fail
      go_ret
      exact ⟨by rw [H.out]; rfl, Gr.one _ _⟩
  · have H := Lib.hid (show sml n d = false by unfold sml; simp [c1])
    have d1 : decide (-1000000000 ≤ n) = false := decide_eq_false c1
    go_enter Tryd.func27, Tryd.ntmps27
    go_wp2_with fail
    go_ret
    exact ⟨by rw [H.out]; rfl, Gr.one _ _⟩

theorem Blk.at00 (w : World) (x y : Value) (T : TypeId) : Blk (w.alloc (.cells #[x, y] T)) w.heap.size x y := Blk.made w x y T
theorem Blk.at01 (w : World) (x y : Value) (T : TypeId) (o : Obj) : Blk ((w.alloc (.cells #[x, y] T)).alloc o) w.heap.size x y := (Blk.made w x y T).keep (Gr.one _ _)
theorem Blk.at02 (w : World) (x y : Value) (T : TypeId) (o o' : Obj) : Blk (((w.alloc (.cells #[x, y] T)).alloc o).alloc o') w.heap.size x y := (Blk.made w x y T).keep ((Gr.one _ _).alloc _)
theorem Blk.at11 (w : World) (x y : Value) (T : TypeId) (o o' : Obj) : Blk (((w.alloc o).alloc (.cells #[x, y] T)).alloc o') (w.heap.size + 1) x y := (Blk.at10 w x y T o).keep (Gr.one _ _)
theorem Blk.at20 (w : World) (x y : Value) (T : TypeId) (o o' : Obj) : Blk (((w.alloc o).alloc o').alloc (.cells #[x, y] T)) (w.heap.size + 1 + 1) x y := by simpa using Blk.made ((w.alloc o).alloc o') x y T

section
variable {a b c d x y e : Int} (w : World)
theorem of_at (h0 : -9223372036854775808 ≤ a) (h1 : a ≤ 9223372036854775807) (k0 : -9223372036854775808 ≤ b) (k1 : b ≤ 9223372036854775807) (hb : b ≠ 0) (hx : rN (Rat.divInt a b) = x) (hy : rD (Rat.divInt a b) = y) (he : rE (Rat.divInt a b) = e) :
    Calls Tryd.prog 10 #[.int .i64 a, .int .i64 b] w fun r w' => r = .returned (.tuple #[.agg #[.int .i64 x, .int .i64 y], .int .i64 e]) ∧ Below w.heap.size w w' := by
  have := of_some a b w h0 h1 k0 k1 hb
  unfold fr at this
  rwa [hx, hy, he] at this
theorem mul_at (hv : vld a b = true) (hv' : vld c d = true) (hx : rN (rat a b * rat c d) = x) (hy : rD (rat a b * rat c d) = y) (he : rE (rat a b * rat c d) = e) :
    Calls Tryd.prog 14 #[.agg #[.int .i64 a, .int .i64 b], .agg #[.int .i64 c, .int .i64 d]] w fun r w' => r = .returned (.tuple #[.agg #[.int .i64 x, .int .i64 y], .int .i64 e]) ∧ Below w.heap.size w w' := by
  have := mul_yes a b c d w hv hv'
  unfold fr at this
  rwa [hx, hy, he] at this
theorem cmp_at (hv : vld a b = true) (hv' : vld c d = true) (hx : cmp a b c d = x) :
    Calls Tryd.prog 18 #[.agg #[.int .i64 a, .int .i64 b], .agg #[.int .i64 c, .int .i64 d]] w fun r w' => r = .returned (.tuple #[.int .i64 x, .int .i64 0]) ∧ Gr w w' := by
  have := compare_yes a b c d w hv hv'
  rwa [hx] at this
theorem flr_at (hv : vld a b = true) (hx : flr a b = x) :
    Calls Tryd.prog 20 #[.agg #[.int .i64 a, .int .i64 b]] w fun r w' => r = .returned (.tuple #[.int .i64 x, .int .i64 0]) ∧ Gr w w' := by
  have := floor_yes a b w hv
  rwa [hx] at this
theorem txt_at (hL : Laid w) (hv : vld a b = true) {t : ByteArray} (ht : (⟨(txt a b).toArray⟩ : ByteArray) = t) :
    Calls Tryd.prog 22 #[.agg #[.int .i64 a, .int .i64 b]] w fun r w' => r = .returned (.tuple #[.string t, .int .i64 0]) ∧ Gr w w' := by
  have := text_yes a b w hL hv
  rwa [ht] at this
end
end Go.Proofs.YtdmddfhjfkdlnaaDoor
