/- The contract of Add for all fractions. Under no condition but the types' own ranges. -/
import Derived.Test.YtdmddfhjfkdlnaaDoorM
import Derived.Test.YtdmddfhjfkdlnaaDoorG
namespace Go.Proofs.YtdmddfhjfkdlnaaDoor
open Go.RowKit

set_option maxRecDepth 100000 in
set_option maxHeartbeats 1000000 in
theorem add_no (a b c d : Int) (w : World) (h0 : -9223372036854775808 ≤ a) (h1 : a ≤ 9223372036854775807) (k0 : -9223372036854775808 ≤ b) (k1 : b ≤ 9223372036854775807)
    (h2 : -9223372036854775808 ≤ c) (h3 : c ≤ 9223372036854775807) (k2 : -9223372036854775808 ≤ d) (k3 : d ≤ 9223372036854775807) (h : (vld a b && vld c d) = false) :
    Calls Tryd.prog 12 #[.agg #[.int .i64 a, .int .i64 b], .agg #[.int .i64 c, .int .i64 d]] w fun e w' => e = .returned (.tuple #[.agg #[.int .i64 0, .int .i64 0], .int .i64 1]) ∧ Below w.heap.size w w' := by
  have V1 := fun W => valid_any a b W h0 h1 k0 k1
  have V2 := fun W => valid_any c d W h2 h3 k2 k3
  generalize vld a b = v1 at *
  generalize vld c d = v2 at *
  have HV1 := Lib.hid V1
  have HV2 := Lib.hid V2
  clear V1 V2
  cases v1 with
  | false =>
    clear h
    go_enter Tryd.func12, Tryd.ntmps12
    go_wp2_with fail
    have B0 := Lib.hid (Three.made w (.int .i64 a) (.int .i64 b) (.int .i64 c) (.int .i64 d))
    have GW := Lib.hid (((Gr.one w (.cells #[.int .i64 a, .int .i64 b] 23)).alloc (.cells #[.int .i64 c, .int .i64 d] 23)).alloc (.cells #[.int .i64 0, .int .i64 0] 23))
    generalize ((w.alloc (.cells #[.int .i64 a, .int .i64 b] 23)).alloc (.cells #[.int .i64 c, .int .i64 d] 23)).alloc (.cells #[.int .i64 0, .int .i64 0] 23) = W at *
    refine (HV1.out _).mono ?_
    rintro e w1 ⟨rfl, hg⟩
    obtain ⟨⟨s1, x1, y1, f1, e1⟩, ⟨s2, x2, y2, f2, e2⟩, ⟨s3, x3, y3, f3, e3⟩⟩ := B0.out.keep hg
    have GW1 := Lib.hid (GW.out.trans hg)
    clear B0 GW hg
    go_wp2_with fail
    refine bodyPost_ret (v := .tuple #[.agg #[.int .i64 0, .int .i64 0], .int .i64 1]) (by simp [results, Tryd.results12, go_sem, *]) rfl ⟨rfl, ?_⟩
    exact (GW1.out.below.setCell (by show _ ≤ w.heap.size + 1 + 1; omega) _).setCell (by show _ ≤ w.heap.size + 1 + 1; omega) _
  | true =>
    obtain rfl : v2 = false := by simpa using h
    clear h
    go_enter Tryd.func12, Tryd.ntmps12
    go_wp2_with fail
    have B0 := Lib.hid (Three.made w (.int .i64 a) (.int .i64 b) (.int .i64 c) (.int .i64 d))
    have GW := Lib.hid (((Gr.one w (.cells #[.int .i64 a, .int .i64 b] 23)).alloc (.cells #[.int .i64 c, .int .i64 d] 23)).alloc (.cells #[.int .i64 0, .int .i64 0] 23))
    generalize ((w.alloc (.cells #[.int .i64 a, .int .i64 b] 23)).alloc (.cells #[.int .i64 c, .int .i64 d] 23)).alloc (.cells #[.int .i64 0, .int .i64 0] 23) = W at *
    refine (HV1.out _).mono ?_
    rintro e w1 ⟨rfl, hg⟩
    have B1 := Lib.hid (B0.out.keep hg)
    obtain ⟨⟨s1, x1, y1, f1, e1⟩, ⟨s2, x2, y2, f2, e2⟩, ⟨s3, x3, y3, f3, e3⟩⟩ := B0.out.keep hg
    have GW1 := Lib.hid (GW.out.trans hg)
    clear B0 GW hg
    go_wp2_with fail
    refine (HV2.out _).mono ?_
    rintro e w2 ⟨rfl, hg⟩
    clear s1 x1 y1 f1 e1 s2 x2 y2 f2 e2 s3 x3 y3 f3 e3
    obtain ⟨⟨s1, x1, y1, f1, e1⟩, ⟨s2, x2, y2, f2, e2⟩, ⟨s3, x3, y3, f3, e3⟩⟩ := B1.out.keep hg
    have GW2 := Lib.hid (GW1.out.trans hg)
    clear B1 GW1 hg
    go_wp2_with fail
    refine bodyPost_ret (v := .tuple #[.agg #[.int .i64 0, .int .i64 0], .int .i64 1]) (by simp [results, Tryd.results12, go_sem, *]) rfl ⟨rfl, ?_⟩
    exact (GW2.out.below.setCell (by show _ ≤ w.heap.size + 1 + 1; omega) _).setCell (by show _ ≤ w.heap.size + 1 + 1; omega) _

theorem add_yes (a b c d : Int) (w : World) (hv : vld a b = true) (hv' : vld c d = true) :
    Calls Tryd.prog 12 #[.agg #[.int .i64 a, .int .i64 b], .agg #[.int .i64 c, .int .i64 d]] w fun e w' => e = .returned (fr (rat a b + rat c d)) ∧ Below w.heap.size w w' := by
  obtain ⟨_, _, _, _⟩ := vld_iff.1 hv
  obtain ⟨_, _, _, _⟩ := vld_iff.1 hv'
  exact add_some a b c d w hv hv' (by omega) (by omega) (by omega) (by omega) (by omega) (by omega) (by omega) (by omega) _ rfl
theorem add_at {a b c d x y e : Int} (w : World) (hv : vld a b = true) (hv' : vld c d = true) (hx : rN (rat a b + rat c d) = x) (hy : rD (rat a b + rat c d) = y) (he : rE (rat a b + rat c d) = e) :
    Calls Tryd.prog 12 #[.agg #[.int .i64 a, .int .i64 b], .agg #[.int .i64 c, .int .i64 d]] w fun r w' => r = .returned (.tuple #[.agg #[.int .i64 x, .int .i64 y], .int .i64 e]) ∧ Below w.heap.size w w' := by
  have := add_yes a b c d w hv hv'
  unfold fr at this
  rwa [hx, hy, he] at this
end Go.Proofs.YtdmddfhjfkdlnaaDoor
