/- The walk of the law FractionOrder. Under the condition that the tables and the library's variables lie in memory as the program lays them. -/
import Derived.Test.YtdmddfhjfkdlnaaDoorHd
import Derived.Test.YtdmddfhjfkdlnaaDoorPd
namespace Go.Proofs.YtdmddfhjfkdlnaaDoor
open Go.RowKit
set_option maxRecDepth 100000 in
set_option maxHeartbeats 2000000 in
theorem order_no (a b c d p q : Int) (w : World) (hL : Laid w) (h0 : -9223372036854775808 ≤ a) (h1 : a ≤ 9223372036854775807) (h2 : -9223372036854775808 ≤ b) (h3 : b ≤ 9223372036854775807) (h4 : -9223372036854775808 ≤ c) (h5 : c ≤ 9223372036854775807) (h6 : -9223372036854775808 ≤ d) (h7 : d ≤ 9223372036854775807) (h8 : -9223372036854775808 ≤ p) (h9 : p ≤ 9223372036854775807) (ha : -9223372036854775808 ≤ q) (hb : q ≤ 9223372036854775807) (h : (vld a b && vld c d && vld p q) = false) : Calls Tryd.prog 5 #[.agg #[.int .i64 a, .int .i64 b], .agg #[.int .i64 c, .int .i64 d], .agg #[.int .i64 p, .int .i64 q]] w (Yes w) := by
  have HL := Lib.hid hL
  have V1 := fun W => valid_any a b W h0 h1 h2 h3
  have V2 := fun W => valid_any c d W h4 h5 h6 h7
  have V3 := fun W => valid_any p q W h8 h9 ha hb
  generalize vld a b = v1 at *
  generalize vld c d = v2 at *
  generalize vld p q = v3 at *
  have HV1 := Lib.hid V1
  have HV2 := Lib.hid V2
  have HV3 := Lib.hid V3
  clear hL V1 V2 V3
  cases v1 with
  | false =>
    clear h
    go_enter Tryd.func5, Tryd.ntmps5
    go_wp2_with fail
    have T0 := Lib.hid (Below.refl w.heap.size w)
    have G1 : Gr w (((w.alloc (.cells #[.int .i64 a, .int .i64 b] 23)).alloc (.cells #[.int .i64 c, .int .i64 d] 23)).alloc (.cells #[.int .i64 p, .int .i64 q] 23)) := (((Gr.one _ _).alloc _).alloc _)
    have T1 := Lib.hid (T0.out.trans (G1.below.mono T0.out.size))
    have B0_1 : Hid (Blk (((w.alloc (.cells #[.int .i64 a, .int .i64 b] 23)).alloc (.cells #[.int .i64 c, .int .i64 d] 23)).alloc (.cells #[.int .i64 p, .int .i64 q] 23)) (w.heap.size) (.int .i64 a) (.int .i64 b)) := Lib.hid (Blk.at02 _ _ _ _ _ _)
    have B1_1 : Hid (Blk (((w.alloc (.cells #[.int .i64 a, .int .i64 b] 23)).alloc (.cells #[.int .i64 c, .int .i64 d] 23)).alloc (.cells #[.int .i64 p, .int .i64 q] 23)) (w.heap.size + 1) (.int .i64 c) (.int .i64 d)) := Lib.hid (Blk.at11 _ _ _ _ _ _)
    have B2_1 : Hid (Blk (((w.alloc (.cells #[.int .i64 a, .int .i64 b] 23)).alloc (.cells #[.int .i64 c, .int .i64 d] 23)).alloc (.cells #[.int .i64 p, .int .i64 q] 23)) (w.heap.size + 1 + 1) (.int .i64 p) (.int .i64 q)) := Lib.hid (Blk.at20 _ _ _ _ _ _)
    generalize hw1 : (((w.alloc (.cells #[.int .i64 a, .int .i64 b] 23)).alloc (.cells #[.int .i64 c, .int .i64 d] 23)).alloc (.cells #[.int .i64 p, .int .i64 q] 23)) = w1 at *
    clear hw1 G1
    obtain ⟨bs0, bx0, by0, bf0, be0⟩ := B0_1.out
    obtain ⟨bs1, bx1, by1, bf1, be1⟩ := B1_1.out
    obtain ⟨bs2, bx2, by2, bf2, be2⟩ := B2_1.out
    refine (head_any _ (HL.out.keep T1.out)).mono ?_
    rintro e2 w2 ⟨rfl, hg⟩
    have T2 := Lib.hid (T1.out.trans (hg.mono T1.out.size))
    have B0_2 := Lib.hid (B0_1.out.below hg)
    have B1_2 := Lib.hid (B1_1.out.below hg)
    have B2_2 := Lib.hid (B2_1.out.below hg)
    clear hg
    clear bs0 bx0 by0 bf0 be0 bs1 bx1 by1 bf1 be1 bs2 bx2 by2 bf2 be2
    obtain ⟨bs0, bx0, by0, bf0, be0⟩ := B0_2.out
    obtain ⟨bs1, bx1, by1, bf1, be1⟩ := B1_2.out
    obtain ⟨bs2, bx2, by2, bf2, be2⟩ := B2_2.out
    go_wp2_with fail
    refine (HV1.out _).mono ?_
    rintro e3 w3 ⟨rfl, hg⟩
    replace hg := hg.below
    have T3 := Lib.hid (T2.out.trans (hg.mono T2.out.size))
    have B0_3 := Lib.hid (B0_2.out.below hg)
    have B1_3 := Lib.hid (B1_2.out.below hg)
    have B2_3 := Lib.hid (B2_2.out.below hg)
    clear hg
    clear bs0 bx0 by0 bf0 be0 bs1 bx1 by1 bf1 be1 bs2 bx2 by2 bf2 be2
    obtain ⟨bs0, bx0, by0, bf0, be0⟩ := B0_3.out
    obtain ⟨bs1, bx1, by1, bf1, be1⟩ := B1_3.out
    obtain ⟨bs2, bx2, by2, bf2, be2⟩ := B2_3.out
    go_wp2_with fail
    go_ret
    exact ⟨rfl, T3.out⟩
  | true =>
    cases v2 with
    | false =>
      clear h
      go_enter Tryd.func5, Tryd.ntmps5
      go_wp2_with fail
      have T0 := Lib.hid (Below.refl w.heap.size w)
      have G1 : Gr w (((w.alloc (.cells #[.int .i64 a, .int .i64 b] 23)).alloc (.cells #[.int .i64 c, .int .i64 d] 23)).alloc (.cells #[.int .i64 p, .int .i64 q] 23)) := (((Gr.one _ _).alloc _).alloc _)
      have T1 := Lib.hid (T0.out.trans (G1.below.mono T0.out.size))
      have B0_1 : Hid (Blk (((w.alloc (.cells #[.int .i64 a, .int .i64 b] 23)).alloc (.cells #[.int .i64 c, .int .i64 d] 23)).alloc (.cells #[.int .i64 p, .int .i64 q] 23)) (w.heap.size) (.int .i64 a) (.int .i64 b)) := Lib.hid (Blk.at02 _ _ _ _ _ _)
      have B1_1 : Hid (Blk (((w.alloc (.cells #[.int .i64 a, .int .i64 b] 23)).alloc (.cells #[.int .i64 c, .int .i64 d] 23)).alloc (.cells #[.int .i64 p, .int .i64 q] 23)) (w.heap.size + 1) (.int .i64 c) (.int .i64 d)) := Lib.hid (Blk.at11 _ _ _ _ _ _)
      have B2_1 : Hid (Blk (((w.alloc (.cells #[.int .i64 a, .int .i64 b] 23)).alloc (.cells #[.int .i64 c, .int .i64 d] 23)).alloc (.cells #[.int .i64 p, .int .i64 q] 23)) (w.heap.size + 1 + 1) (.int .i64 p) (.int .i64 q)) := Lib.hid (Blk.at20 _ _ _ _ _ _)
      generalize hw1 : (((w.alloc (.cells #[.int .i64 a, .int .i64 b] 23)).alloc (.cells #[.int .i64 c, .int .i64 d] 23)).alloc (.cells #[.int .i64 p, .int .i64 q] 23)) = w1 at *
      clear hw1 G1
      obtain ⟨bs0, bx0, by0, bf0, be0⟩ := B0_1.out
      obtain ⟨bs1, bx1, by1, bf1, be1⟩ := B1_1.out
      obtain ⟨bs2, bx2, by2, bf2, be2⟩ := B2_1.out
      refine (head_any _ (HL.out.keep T1.out)).mono ?_
      rintro e2 w2 ⟨rfl, hg⟩
      have T2 := Lib.hid (T1.out.trans (hg.mono T1.out.size))
      have B0_2 := Lib.hid (B0_1.out.below hg)
      have B1_2 := Lib.hid (B1_1.out.below hg)
      have B2_2 := Lib.hid (B2_1.out.below hg)
      clear hg
      clear bs0 bx0 by0 bf0 be0 bs1 bx1 by1 bf1 be1 bs2 bx2 by2 bf2 be2
      obtain ⟨bs0, bx0, by0, bf0, be0⟩ := B0_2.out
      obtain ⟨bs1, bx1, by1, bf1, be1⟩ := B1_2.out
      obtain ⟨bs2, bx2, by2, bf2, be2⟩ := B2_2.out
      go_wp2_with fail
      refine (HV1.out _).mono ?_
      rintro e3 w3 ⟨rfl, hg⟩
      replace hg := hg.below
      have T3 := Lib.hid (T2.out.trans (hg.mono T2.out.size))
      have B0_3 := Lib.hid (B0_2.out.below hg)
      have B1_3 := Lib.hid (B1_2.out.below hg)
      have B2_3 := Lib.hid (B2_2.out.below hg)
      clear hg
      clear bs0 bx0 by0 bf0 be0 bs1 bx1 by1 bf1 be1 bs2 bx2 by2 bf2 be2
      obtain ⟨bs0, bx0, by0, bf0, be0⟩ := B0_3.out
      obtain ⟨bs1, bx1, by1, bf1, be1⟩ := B1_3.out
      obtain ⟨bs2, bx2, by2, bf2, be2⟩ := B2_3.out
      go_wp2_with fail
      refine (HV2.out _).mono ?_
      rintro e4 w4 ⟨rfl, hg⟩
      replace hg := hg.below
      have T4 := Lib.hid (T3.out.trans (hg.mono T3.out.size))
      have B0_4 := Lib.hid (B0_3.out.below hg)
      have B1_4 := Lib.hid (B1_3.out.below hg)
      have B2_4 := Lib.hid (B2_3.out.below hg)
      clear hg
      clear bs0 bx0 by0 bf0 be0 bs1 bx1 by1 bf1 be1 bs2 bx2 by2 bf2 be2
      obtain ⟨bs0, bx0, by0, bf0, be0⟩ := B0_4.out
      obtain ⟨bs1, bx1, by1, bf1, be1⟩ := B1_4.out
      obtain ⟨bs2, bx2, by2, bf2, be2⟩ := B2_4.out
      go_wp2_with fail
      go_ret
      exact ⟨rfl, T4.out⟩
    | true =>
      obtain rfl : v3 = false := by simpa using h
      clear h
      go_enter Tryd.func5, Tryd.ntmps5
      go_wp2_with fail
      have T0 := Lib.hid (Below.refl w.heap.size w)
      have G1 : Gr w (((w.alloc (.cells #[.int .i64 a, .int .i64 b] 23)).alloc (.cells #[.int .i64 c, .int .i64 d] 23)).alloc (.cells #[.int .i64 p, .int .i64 q] 23)) := (((Gr.one _ _).alloc _).alloc _)
      have T1 := Lib.hid (T0.out.trans (G1.below.mono T0.out.size))
      have B0_1 : Hid (Blk (((w.alloc (.cells #[.int .i64 a, .int .i64 b] 23)).alloc (.cells #[.int .i64 c, .int .i64 d] 23)).alloc (.cells #[.int .i64 p, .int .i64 q] 23)) (w.heap.size) (.int .i64 a) (.int .i64 b)) := Lib.hid (Blk.at02 _ _ _ _ _ _)
      have B1_1 : Hid (Blk (((w.alloc (.cells #[.int .i64 a, .int .i64 b] 23)).alloc (.cells #[.int .i64 c, .int .i64 d] 23)).alloc (.cells #[.int .i64 p, .int .i64 q] 23)) (w.heap.size + 1) (.int .i64 c) (.int .i64 d)) := Lib.hid (Blk.at11 _ _ _ _ _ _)
      have B2_1 : Hid (Blk (((w.alloc (.cells #[.int .i64 a, .int .i64 b] 23)).alloc (.cells #[.int .i64 c, .int .i64 d] 23)).alloc (.cells #[.int .i64 p, .int .i64 q] 23)) (w.heap.size + 1 + 1) (.int .i64 p) (.int .i64 q)) := Lib.hid (Blk.at20 _ _ _ _ _ _)
      generalize hw1 : (((w.alloc (.cells #[.int .i64 a, .int .i64 b] 23)).alloc (.cells #[.int .i64 c, .int .i64 d] 23)).alloc (.cells #[.int .i64 p, .int .i64 q] 23)) = w1 at *
      clear hw1 G1
      obtain ⟨bs0, bx0, by0, bf0, be0⟩ := B0_1.out
      obtain ⟨bs1, bx1, by1, bf1, be1⟩ := B1_1.out
      obtain ⟨bs2, bx2, by2, bf2, be2⟩ := B2_1.out
      refine (head_any _ (HL.out.keep T1.out)).mono ?_
      rintro e2 w2 ⟨rfl, hg⟩
      have T2 := Lib.hid (T1.out.trans (hg.mono T1.out.size))
      have B0_2 := Lib.hid (B0_1.out.below hg)
      have B1_2 := Lib.hid (B1_1.out.below hg)
      have B2_2 := Lib.hid (B2_1.out.below hg)
      clear hg
      clear bs0 bx0 by0 bf0 be0 bs1 bx1 by1 bf1 be1 bs2 bx2 by2 bf2 be2
      obtain ⟨bs0, bx0, by0, bf0, be0⟩ := B0_2.out
      obtain ⟨bs1, bx1, by1, bf1, be1⟩ := B1_2.out
      obtain ⟨bs2, bx2, by2, bf2, be2⟩ := B2_2.out
      go_wp2_with fail
      refine (HV1.out _).mono ?_
      rintro e3 w3 ⟨rfl, hg⟩
      replace hg := hg.below
      have T3 := Lib.hid (T2.out.trans (hg.mono T2.out.size))
      have B0_3 := Lib.hid (B0_2.out.below hg)
      have B1_3 := Lib.hid (B1_2.out.below hg)
      have B2_3 := Lib.hid (B2_2.out.below hg)
      clear hg
      clear bs0 bx0 by0 bf0 be0 bs1 bx1 by1 bf1 be1 bs2 bx2 by2 bf2 be2
      obtain ⟨bs0, bx0, by0, bf0, be0⟩ := B0_3.out
      obtain ⟨bs1, bx1, by1, bf1, be1⟩ := B1_3.out
      obtain ⟨bs2, bx2, by2, bf2, be2⟩ := B2_3.out
      go_wp2_with fail
      refine (HV2.out _).mono ?_
      rintro e4 w4 ⟨rfl, hg⟩
      replace hg := hg.below
      have T4 := Lib.hid (T3.out.trans (hg.mono T3.out.size))
      have B0_4 := Lib.hid (B0_3.out.below hg)
      have B1_4 := Lib.hid (B1_3.out.below hg)
      have B2_4 := Lib.hid (B2_3.out.below hg)
      clear hg
      clear bs0 bx0 by0 bf0 be0 bs1 bx1 by1 bf1 be1 bs2 bx2 by2 bf2 be2
      obtain ⟨bs0, bx0, by0, bf0, be0⟩ := B0_4.out
      obtain ⟨bs1, bx1, by1, bf1, be1⟩ := B1_4.out
      obtain ⟨bs2, bx2, by2, bf2, be2⟩ := B2_4.out
      go_wp2_with fail
      refine (HV3.out _).mono ?_
      rintro e5 w5 ⟨rfl, hg⟩
      replace hg := hg.below
      have T5 := Lib.hid (T4.out.trans (hg.mono T4.out.size))
      have B0_5 := Lib.hid (B0_4.out.below hg)
      have B1_5 := Lib.hid (B1_4.out.below hg)
      have B2_5 := Lib.hid (B2_4.out.below hg)
      clear hg
      clear bs0 bx0 by0 bf0 be0 bs1 bx1 by1 bf1 be1 bs2 bx2 by2 bf2 be2
      obtain ⟨bs0, bx0, by0, bf0, be0⟩ := B0_5.out
      obtain ⟨bs1, bx1, by1, bf1, be1⟩ := B1_5.out
      obtain ⟨bs2, bx2, by2, bf2, be2⟩ := B2_5.out
      go_wp2_with fail
      go_ret
      exact ⟨rfl, T5.out⟩
set_option maxRecDepth 100000 in
set_option maxHeartbeats 8000000 in
theorem order_way1 (a b c d p q k1 k3 k4  yn yd ye : Int) (w : World) (hk : -1 ≤ k1 ∧ k1 ≤ 1) (hz : k1 = 0 ↔ (a = c ∧ b = d)) (ht : k1 ≤ 0 → k3 ≤ 0 → k4 ≤ 0 ∧ (k1 < 0 → k4 < 0)) (HL : Hid (Laid w)) (HV1 : Hid (∀ W, Calls Tryd.prog 16 #[.agg #[.int .i64 a, .int .i64 b]] W fun e w' => e = .returned (.bool true) ∧ Gr W w')) (HV2 : Hid (∀ W, Calls Tryd.prog 16 #[.agg #[.int .i64 c, .int .i64 d]] W fun e w' => e = .returned (.bool true) ∧ Gr W w')) (HV3 : Hid (∀ W, Calls Tryd.prog 16 #[.agg #[.int .i64 p, .int .i64 q]] W fun e w' => e = .returned (.bool true) ∧ Gr W w'))
    (HC1 : Hid (∀ W, Calls Tryd.prog 18 #[.agg #[.int .i64 a, .int .i64 b], .agg #[.int .i64 c, .int .i64 d]] W fun e w' => e = .returned (.tuple #[.int .i64 k1, .int .i64 0]) ∧ Gr W w')) (HC2 : Hid (∀ W, Calls Tryd.prog 18 #[.agg #[.int .i64 c, .int .i64 d], .agg #[.int .i64 a, .int .i64 b]] W fun e w' => e = .returned (.tuple #[.int .i64 (-k1), .int .i64 0]) ∧ Gr W w'))
    (HC3 : Hid (∀ W, Calls Tryd.prog 18 #[.agg #[.int .i64 c, .int .i64 d], .agg #[.int .i64 p, .int .i64 q]] W fun e w' => e = .returned (.tuple #[.int .i64 k3, .int .i64 0]) ∧ Gr W w')) (HC4 : Hid (∀ W, Calls Tryd.prog 18 #[.agg #[.int .i64 a, .int .i64 b], .agg #[.int .i64 p, .int .i64 q]] W fun e w' => e = .returned (.tuple #[.int .i64 k4, .int .i64 0]) ∧ Gr W w'))
    (HA1 : Hid (∀ W, Calls Tryd.prog 12 #[.agg #[.int .i64 a, .int .i64 b], .agg #[.int .i64 p, .int .i64 q]] W fun e w' => e = .returned (.tuple #[.agg #[.int .i64 0, .int .i64 0], .int .i64 9]) ∧ Below W.heap.size W w')) (HA2 : Hid (∀ W, Calls Tryd.prog 12 #[.agg #[.int .i64 c, .int .i64 d], .agg #[.int .i64 p, .int .i64 q]] W fun e w' => e = .returned (.tuple #[.agg #[.int .i64 yn, .int .i64 yd], .int .i64 ye]) ∧ Below W.heap.size W w')) : Calls Tryd.prog 5 #[.agg #[.int .i64 a, .int .i64 b], .agg #[.int .i64 c, .int .i64 d], .agg #[.int .i64 p, .int .i64 q]] w (Yes w) := by
  obtain ⟨hk0, hk1⟩ := hk
  by_cases e0 : k1 = 0
  · obtain ⟨rfl, rfl⟩ := hz.1 e0
    subst e0
    clear hz hk0 hk1
    by_cases e3 : k3 ≤ 0
    · have e4 := (ht (by decide) e3).1
      clear ht
      go_enter Tryd.func5, Tryd.ntmps5
      go_wp2_with fail
      have T0 := Lib.hid (Below.refl w.heap.size w)
      have G1 : Gr w (((w.alloc (.cells #[.int .i64 a, .int .i64 b] 23)).alloc (.cells #[.int .i64 a, .int .i64 b] 23)).alloc (.cells #[.int .i64 p, .int .i64 q] 23)) := (((Gr.one _ _).alloc _).alloc _)
      have T1 := Lib.hid (T0.out.trans (G1.below.mono T0.out.size))
      have B0_1 : Hid (Blk (((w.alloc (.cells #[.int .i64 a, .int .i64 b] 23)).alloc (.cells #[.int .i64 a, .int .i64 b] 23)).alloc (.cells #[.int .i64 p, .int .i64 q] 23)) (w.heap.size) (.int .i64 a) (.int .i64 b)) := Lib.hid (Blk.at02 _ _ _ _ _ _)
      have B1_1 : Hid (Blk (((w.alloc (.cells #[.int .i64 a, .int .i64 b] 23)).alloc (.cells #[.int .i64 a, .int .i64 b] 23)).alloc (.cells #[.int .i64 p, .int .i64 q] 23)) (w.heap.size + 1) (.int .i64 a) (.int .i64 b)) := Lib.hid (Blk.at11 _ _ _ _ _ _)
      have B2_1 : Hid (Blk (((w.alloc (.cells #[.int .i64 a, .int .i64 b] 23)).alloc (.cells #[.int .i64 a, .int .i64 b] 23)).alloc (.cells #[.int .i64 p, .int .i64 q] 23)) (w.heap.size + 1 + 1) (.int .i64 p) (.int .i64 q)) := Lib.hid (Blk.at20 _ _ _ _ _ _)
      generalize hw1 : (((w.alloc (.cells #[.int .i64 a, .int .i64 b] 23)).alloc (.cells #[.int .i64 a, .int .i64 b] 23)).alloc (.cells #[.int .i64 p, .int .i64 q] 23)) = w1 at *
      clear hw1 G1
      obtain ⟨bs0, bx0, by0, bf0, be0⟩ := B0_1.out
      obtain ⟨bs1, bx1, by1, bf1, be1⟩ := B1_1.out
      obtain ⟨bs2, bx2, by2, bf2, be2⟩ := B2_1.out
      refine (head_any _ (HL.out.keep T1.out)).mono ?_
      rintro e2 w2 ⟨rfl, hg⟩
      have T2 := Lib.hid (T1.out.trans (hg.mono T1.out.size))
      have B0_2 := Lib.hid (B0_1.out.below hg)
      have B1_2 := Lib.hid (B1_1.out.below hg)
      have B2_2 := Lib.hid (B2_1.out.below hg)
      clear hg
      clear bs0 bx0 by0 bf0 be0 bs1 bx1 by1 bf1 be1 bs2 bx2 by2 bf2 be2
      obtain ⟨bs0, bx0, by0, bf0, be0⟩ := B0_2.out
      obtain ⟨bs1, bx1, by1, bf1, be1⟩ := B1_2.out
      obtain ⟨bs2, bx2, by2, bf2, be2⟩ := B2_2.out
      go_wp2_with fail
      refine (HV1.out _).mono ?_
      rintro e3 w3 ⟨rfl, hg⟩
      replace hg := hg.below
      have T3 := Lib.hid (T2.out.trans (hg.mono T2.out.size))
      have B0_3 := Lib.hid (B0_2.out.below hg)
      have B1_3 := Lib.hid (B1_2.out.below hg)
      have B2_3 := Lib.hid (B2_2.out.below hg)
      clear hg
      clear bs0 bx0 by0 bf0 be0 bs1 bx1 by1 bf1 be1 bs2 bx2 by2 bf2 be2
      obtain ⟨bs0, bx0, by0, bf0, be0⟩ := B0_3.out
      obtain ⟨bs1, bx1, by1, bf1, be1⟩ := B1_3.out
      obtain ⟨bs2, bx2, by2, bf2, be2⟩ := B2_3.out
      go_wp2_with fail
      refine (HV2.out _).mono ?_
      rintro e4 w4 ⟨rfl, hg⟩
      replace hg := hg.below
      have T4 := Lib.hid (T3.out.trans (hg.mono T3.out.size))
      have B0_4 := Lib.hid (B0_3.out.below hg)
      have B1_4 := Lib.hid (B1_3.out.below hg)
      have B2_4 := Lib.hid (B2_3.out.below hg)
      clear hg
      clear bs0 bx0 by0 bf0 be0 bs1 bx1 by1 bf1 be1 bs2 bx2 by2 bf2 be2
      obtain ⟨bs0, bx0, by0, bf0, be0⟩ := B0_4.out
      obtain ⟨bs1, bx1, by1, bf1, be1⟩ := B1_4.out
      obtain ⟨bs2, bx2, by2, bf2, be2⟩ := B2_4.out
      go_wp2_with fail
      refine (HV3.out _).mono ?_
      rintro e5 w5 ⟨rfl, hg⟩
      replace hg := hg.below
      have T5 := Lib.hid (T4.out.trans (hg.mono T4.out.size))
      have B0_5 := Lib.hid (B0_4.out.below hg)
      have B1_5 := Lib.hid (B1_4.out.below hg)
      have B2_5 := Lib.hid (B2_4.out.below hg)
      clear hg
      clear bs0 bx0 by0 bf0 be0 bs1 bx1 by1 bf1 be1 bs2 bx2 by2 bf2 be2
      obtain ⟨bs0, bx0, by0, bf0, be0⟩ := B0_5.out
      obtain ⟨bs1, bx1, by1, bf1, be1⟩ := B1_5.out
      obtain ⟨bs2, bx2, by2, bf2, be2⟩ := B2_5.out
      go_wp2_with fail
      refine (HC1.out _).mono ?_
      rintro e6 w6 ⟨rfl, hg⟩
      replace hg := hg.below
      have T6 := Lib.hid (T5.out.trans (hg.mono T5.out.size))
      have B0_6 := Lib.hid (B0_5.out.below hg)
      have B1_6 := Lib.hid (B1_5.out.below hg)
      have B2_6 := Lib.hid (B2_5.out.below hg)
      clear hg
      clear bs0 bx0 by0 bf0 be0 bs1 bx1 by1 bf1 be1 bs2 bx2 by2 bf2 be2
      obtain ⟨bs0, bx0, by0, bf0, be0⟩ := B0_6.out
      obtain ⟨bs1, bx1, by1, bf1, be1⟩ := B1_6.out
      obtain ⟨bs2, bx2, by2, bf2, be2⟩ := B2_6.out
      go_wp2_with fail
      refine (HC2.out _).mono ?_
      rintro e7 w7 ⟨rfl, hg⟩
      replace hg := hg.below
      have T7 := Lib.hid (T6.out.trans (hg.mono T6.out.size))
      have B0_7 := Lib.hid (B0_6.out.below hg)
      have B1_7 := Lib.hid (B1_6.out.below hg)
      have B2_7 := Lib.hid (B2_6.out.below hg)
      clear hg
      clear bs0 bx0 by0 bf0 be0 bs1 bx1 by1 bf1 be1 bs2 bx2 by2 bf2 be2
      obtain ⟨bs0, bx0, by0, bf0, be0⟩ := B0_7.out
      obtain ⟨bs1, bx1, by1, bf1, be1⟩ := B1_7.out
      obtain ⟨bs2, bx2, by2, bf2, be2⟩ := B2_7.out
      go_wp2_with fail
      refine (HC3.out _).mono ?_
      rintro e8 w8 ⟨rfl, hg⟩
      replace hg := hg.below
      have T8 := Lib.hid (T7.out.trans (hg.mono T7.out.size))
      have B0_8 := Lib.hid (B0_7.out.below hg)
      have B1_8 := Lib.hid (B1_7.out.below hg)
      have B2_8 := Lib.hid (B2_7.out.below hg)
      clear hg
      clear bs0 bx0 by0 bf0 be0 bs1 bx1 by1 bf1 be1 bs2 bx2 by2 bf2 be2
      obtain ⟨bs0, bx0, by0, bf0, be0⟩ := B0_8.out
      obtain ⟨bs1, bx1, by1, bf1, be1⟩ := B1_8.out
      obtain ⟨bs2, bx2, by2, bf2, be2⟩ := B2_8.out
      go_wp2_with fail
      refine (HC4.out _).mono ?_
      rintro e9 w9 ⟨rfl, hg⟩
      replace hg := hg.below
      have T9 := Lib.hid (T8.out.trans (hg.mono T8.out.size))
      have B0_9 := Lib.hid (B0_8.out.below hg)
      have B1_9 := Lib.hid (B1_8.out.below hg)
      have B2_9 := Lib.hid (B2_8.out.below hg)
      clear hg
      clear bs0 bx0 by0 bf0 be0 bs1 bx1 by1 bf1 be1 bs2 bx2 by2 bf2 be2
      obtain ⟨bs0, bx0, by0, bf0, be0⟩ := B0_9.out
      obtain ⟨bs1, bx1, by1, bf1, be1⟩ := B1_9.out
      obtain ⟨bs2, bx2, by2, bf2, be2⟩ := B2_9.out
      go_wp2_with fail
      refine (HA1.out _).mono ?_
      rintro e10 w10 ⟨rfl, hg⟩
      have T10 := Lib.hid (T9.out.trans (hg.mono T9.out.size))
      have B0_10 := Lib.hid (B0_9.out.below hg)
      have B1_10 := Lib.hid (B1_9.out.below hg)
      have B2_10 := Lib.hid (B2_9.out.below hg)
      clear hg
      clear bs0 bx0 by0 bf0 be0 bs1 bx1 by1 bf1 be1 bs2 bx2 by2 bf2 be2
      obtain ⟨bs0, bx0, by0, bf0, be0⟩ := B0_10.out
      obtain ⟨bs1, bx1, by1, bf1, be1⟩ := B1_10.out
      obtain ⟨bs2, bx2, by2, bf2, be2⟩ := B2_10.out
      go_wp2_with fail
      have G11 : Gr w10 (w10.alloc (.cells #[.int .i64 0, .int .i64 0] 23)) := (Gr.one _ _)
      have T11 := Lib.hid (T10.out.trans (G11.below.mono T10.out.size))
      have B0_11 := Lib.hid (B0_10.out.keep G11)
      have B1_11 := Lib.hid (B1_10.out.keep G11)
      have B2_11 := Lib.hid (B2_10.out.keep G11)
      have B3_11 : Hid (Blk (w10.alloc (.cells #[.int .i64 0, .int .i64 0] 23)) (w10.heap.size) (.int .i64 0) (.int .i64 0)) := Lib.hid (Blk.at00 _ _ _ _)
      generalize hw11 : (w10.alloc (.cells #[.int .i64 0, .int .i64 0] 23)) = w11 at *
      clear hw11 G11
      clear bs0 bx0 by0 bf0 be0 bs1 bx1 by1 bf1 be1 bs2 bx2 by2 bf2 be2
      obtain ⟨bs0, bx0, by0, bf0, be0⟩ := B0_11.out
      obtain ⟨bs1, bx1, by1, bf1, be1⟩ := B1_11.out
      obtain ⟨bs2, bx2, by2, bf2, be2⟩ := B2_11.out
      obtain ⟨bs3, bx3, by3, bf3, be3⟩ := B3_11.out
      refine (HA2.out _).mono ?_
      rintro e12 w12 ⟨rfl, hg⟩
      have T12 := Lib.hid (T11.out.trans (hg.mono T11.out.size))
      have B0_12 := Lib.hid (B0_11.out.below hg)
      have B1_12 := Lib.hid (B1_11.out.below hg)
      have B2_12 := Lib.hid (B2_11.out.below hg)
      have B3_12 := Lib.hid (B3_11.out.below hg)
      clear hg
      clear bs0 bx0 by0 bf0 be0 bs1 bx1 by1 bf1 be1 bs2 bx2 by2 bf2 be2 bs3 bx3 by3 bf3 be3
      obtain ⟨bs0, bx0, by0, bf0, be0⟩ := B0_12.out
      obtain ⟨bs1, bx1, by1, bf1, be1⟩ := B1_12.out
      obtain ⟨bs2, bx2, by2, bf2, be2⟩ := B2_12.out
      obtain ⟨bs3, bx3, by3, bf3, be3⟩ := B3_12.out
      go_wp2_with fail
      have G13 : Gr w12 (w12.alloc (.cells #[.int .i64 yn, .int .i64 yd] 23)) := (Gr.one _ _)
      have T13 := Lib.hid (T12.out.trans (G13.below.mono T12.out.size))
      have B0_13 := Lib.hid (B0_12.out.keep G13)
      have B1_13 := Lib.hid (B1_12.out.keep G13)
      have B2_13 := Lib.hid (B2_12.out.keep G13)
      have B3_13 := Lib.hid (B3_12.out.keep G13)
      have B4_13 : Hid (Blk (w12.alloc (.cells #[.int .i64 yn, .int .i64 yd] 23)) (w12.heap.size) (.int .i64 yn) (.int .i64 yd)) := Lib.hid (Blk.at00 _ _ _ _)
      generalize hw13 : (w12.alloc (.cells #[.int .i64 yn, .int .i64 yd] 23)) = w13 at *
      clear hw13 G13
      clear bs0 bx0 by0 bf0 be0 bs1 bx1 by1 bf1 be1 bs2 bx2 by2 bf2 be2 bs3 bx3 by3 bf3 be3
      obtain ⟨bs0, bx0, by0, bf0, be0⟩ := B0_13.out
      obtain ⟨bs1, bx1, by1, bf1, be1⟩ := B1_13.out
      obtain ⟨bs2, bx2, by2, bf2, be2⟩ := B2_13.out
      obtain ⟨bs3, bx3, by3, bf3, be3⟩ := B3_13.out
      obtain ⟨bs4, bx4, by4, bf4, be4⟩ := B4_13.out
      go_wp2_with fail
      go_ret
      exact ⟨rfl, T13.out⟩
    · clear ht
      go_enter Tryd.func5, Tryd.ntmps5
      go_wp2_with fail
      have T0 := Lib.hid (Below.refl w.heap.size w)
      have G1 : Gr w (((w.alloc (.cells #[.int .i64 a, .int .i64 b] 23)).alloc (.cells #[.int .i64 a, .int .i64 b] 23)).alloc (.cells #[.int .i64 p, .int .i64 q] 23)) := (((Gr.one _ _).alloc _).alloc _)
      have T1 := Lib.hid (T0.out.trans (G1.below.mono T0.out.size))
      have B0_1 : Hid (Blk (((w.alloc (.cells #[.int .i64 a, .int .i64 b] 23)).alloc (.cells #[.int .i64 a, .int .i64 b] 23)).alloc (.cells #[.int .i64 p, .int .i64 q] 23)) (w.heap.size) (.int .i64 a) (.int .i64 b)) := Lib.hid (Blk.at02 _ _ _ _ _ _)
      have B1_1 : Hid (Blk (((w.alloc (.cells #[.int .i64 a, .int .i64 b] 23)).alloc (.cells #[.int .i64 a, .int .i64 b] 23)).alloc (.cells #[.int .i64 p, .int .i64 q] 23)) (w.heap.size + 1) (.int .i64 a) (.int .i64 b)) := Lib.hid (Blk.at11 _ _ _ _ _ _)
      have B2_1 : Hid (Blk (((w.alloc (.cells #[.int .i64 a, .int .i64 b] 23)).alloc (.cells #[.int .i64 a, .int .i64 b] 23)).alloc (.cells #[.int .i64 p, .int .i64 q] 23)) (w.heap.size + 1 + 1) (.int .i64 p) (.int .i64 q)) := Lib.hid (Blk.at20 _ _ _ _ _ _)
      generalize hw1 : (((w.alloc (.cells #[.int .i64 a, .int .i64 b] 23)).alloc (.cells #[.int .i64 a, .int .i64 b] 23)).alloc (.cells #[.int .i64 p, .int .i64 q] 23)) = w1 at *
      clear hw1 G1
      obtain ⟨bs0, bx0, by0, bf0, be0⟩ := B0_1.out
      obtain ⟨bs1, bx1, by1, bf1, be1⟩ := B1_1.out
      obtain ⟨bs2, bx2, by2, bf2, be2⟩ := B2_1.out
      refine (head_any _ (HL.out.keep T1.out)).mono ?_
      rintro e2 w2 ⟨rfl, hg⟩
      have T2 := Lib.hid (T1.out.trans (hg.mono T1.out.size))
      have B0_2 := Lib.hid (B0_1.out.below hg)
      have B1_2 := Lib.hid (B1_1.out.below hg)
      have B2_2 := Lib.hid (B2_1.out.below hg)
      clear hg
      clear bs0 bx0 by0 bf0 be0 bs1 bx1 by1 bf1 be1 bs2 bx2 by2 bf2 be2
      obtain ⟨bs0, bx0, by0, bf0, be0⟩ := B0_2.out
      obtain ⟨bs1, bx1, by1, bf1, be1⟩ := B1_2.out
      obtain ⟨bs2, bx2, by2, bf2, be2⟩ := B2_2.out
      go_wp2_with fail
      refine (HV1.out _).mono ?_
      rintro e3 w3 ⟨rfl, hg⟩
      replace hg := hg.below
      have T3 := Lib.hid (T2.out.trans (hg.mono T2.out.size))
      have B0_3 := Lib.hid (B0_2.out.below hg)
      have B1_3 := Lib.hid (B1_2.out.below hg)
      have B2_3 := Lib.hid (B2_2.out.below hg)
      clear hg
      clear bs0 bx0 by0 bf0 be0 bs1 bx1 by1 bf1 be1 bs2 bx2 by2 bf2 be2
      obtain ⟨bs0, bx0, by0, bf0, be0⟩ := B0_3.out
      obtain ⟨bs1, bx1, by1, bf1, be1⟩ := B1_3.out
      obtain ⟨bs2, bx2, by2, bf2, be2⟩ := B2_3.out
      go_wp2_with fail
      refine (HV2.out _).mono ?_
      rintro e4 w4 ⟨rfl, hg⟩
      replace hg := hg.below
      have T4 := Lib.hid (T3.out.trans (hg.mono T3.out.size))
      have B0_4 := Lib.hid (B0_3.out.below hg)
      have B1_4 := Lib.hid (B1_3.out.below hg)
      have B2_4 := Lib.hid (B2_3.out.below hg)
      clear hg
      clear bs0 bx0 by0 bf0 be0 bs1 bx1 by1 bf1 be1 bs2 bx2 by2 bf2 be2
      obtain ⟨bs0, bx0, by0, bf0, be0⟩ := B0_4.out
      obtain ⟨bs1, bx1, by1, bf1, be1⟩ := B1_4.out
      obtain ⟨bs2, bx2, by2, bf2, be2⟩ := B2_4.out
      go_wp2_with fail
      refine (HV3.out _).mono ?_
      rintro e5 w5 ⟨rfl, hg⟩
      replace hg := hg.below
      have T5 := Lib.hid (T4.out.trans (hg.mono T4.out.size))
      have B0_5 := Lib.hid (B0_4.out.below hg)
      have B1_5 := Lib.hid (B1_4.out.below hg)
      have B2_5 := Lib.hid (B2_4.out.below hg)
      clear hg
      clear bs0 bx0 by0 bf0 be0 bs1 bx1 by1 bf1 be1 bs2 bx2 by2 bf2 be2
      obtain ⟨bs0, bx0, by0, bf0, be0⟩ := B0_5.out
      obtain ⟨bs1, bx1, by1, bf1, be1⟩ := B1_5.out
      obtain ⟨bs2, bx2, by2, bf2, be2⟩ := B2_5.out
      go_wp2_with fail
      refine (HC1.out _).mono ?_
      rintro e6 w6 ⟨rfl, hg⟩
      replace hg := hg.below
      have T6 := Lib.hid (T5.out.trans (hg.mono T5.out.size))
      have B0_6 := Lib.hid (B0_5.out.below hg)
      have B1_6 := Lib.hid (B1_5.out.below hg)
      have B2_6 := Lib.hid (B2_5.out.below hg)
      clear hg
      clear bs0 bx0 by0 bf0 be0 bs1 bx1 by1 bf1 be1 bs2 bx2 by2 bf2 be2
      obtain ⟨bs0, bx0, by0, bf0, be0⟩ := B0_6.out
      obtain ⟨bs1, bx1, by1, bf1, be1⟩ := B1_6.out
      obtain ⟨bs2, bx2, by2, bf2, be2⟩ := B2_6.out
      go_wp2_with fail
      refine (HC2.out _).mono ?_
      rintro e7 w7 ⟨rfl, hg⟩
      replace hg := hg.below
      have T7 := Lib.hid (T6.out.trans (hg.mono T6.out.size))
      have B0_7 := Lib.hid (B0_6.out.below hg)
      have B1_7 := Lib.hid (B1_6.out.below hg)
      have B2_7 := Lib.hid (B2_6.out.below hg)
      clear hg
      clear bs0 bx0 by0 bf0 be0 bs1 bx1 by1 bf1 be1 bs2 bx2 by2 bf2 be2
      obtain ⟨bs0, bx0, by0, bf0, be0⟩ := B0_7.out
      obtain ⟨bs1, bx1, by1, bf1, be1⟩ := B1_7.out
      obtain ⟨bs2, bx2, by2, bf2, be2⟩ := B2_7.out
      go_wp2_with fail
      refine (HC3.out _).mono ?_
      rintro e8 w8 ⟨rfl, hg⟩
      replace hg := hg.below
      have T8 := Lib.hid (T7.out.trans (hg.mono T7.out.size))
      have B0_8 := Lib.hid (B0_7.out.below hg)
      have B1_8 := Lib.hid (B1_7.out.below hg)
      have B2_8 := Lib.hid (B2_7.out.below hg)
      clear hg
      clear bs0 bx0 by0 bf0 be0 bs1 bx1 by1 bf1 be1 bs2 bx2 by2 bf2 be2
      obtain ⟨bs0, bx0, by0, bf0, be0⟩ := B0_8.out
      obtain ⟨bs1, bx1, by1, bf1, be1⟩ := B1_8.out
      obtain ⟨bs2, bx2, by2, bf2, be2⟩ := B2_8.out
      go_wp2_with fail
      refine (HC4.out _).mono ?_
      rintro e9 w9 ⟨rfl, hg⟩
      replace hg := hg.below
      have T9 := Lib.hid (T8.out.trans (hg.mono T8.out.size))
      have B0_9 := Lib.hid (B0_8.out.below hg)
      have B1_9 := Lib.hid (B1_8.out.below hg)
      have B2_9 := Lib.hid (B2_8.out.below hg)
      clear hg
      clear bs0 bx0 by0 bf0 be0 bs1 bx1 by1 bf1 be1 bs2 bx2 by2 bf2 be2
      obtain ⟨bs0, bx0, by0, bf0, be0⟩ := B0_9.out
      obtain ⟨bs1, bx1, by1, bf1, be1⟩ := B1_9.out
      obtain ⟨bs2, bx2, by2, bf2, be2⟩ := B2_9.out
      go_wp2_with fail
      refine (HA1.out _).mono ?_
      rintro e10 w10 ⟨rfl, hg⟩
      have T10 := Lib.hid (T9.out.trans (hg.mono T9.out.size))
      have B0_10 := Lib.hid (B0_9.out.below hg)
      have B1_10 := Lib.hid (B1_9.out.below hg)
      have B2_10 := Lib.hid (B2_9.out.below hg)
      clear hg
      clear bs0 bx0 by0 bf0 be0 bs1 bx1 by1 bf1 be1 bs2 bx2 by2 bf2 be2
      obtain ⟨bs0, bx0, by0, bf0, be0⟩ := B0_10.out
      obtain ⟨bs1, bx1, by1, bf1, be1⟩ := B1_10.out
      obtain ⟨bs2, bx2, by2, bf2, be2⟩ := B2_10.out
      go_wp2_with fail
      have G11 : Gr w10 (w10.alloc (.cells #[.int .i64 0, .int .i64 0] 23)) := (Gr.one _ _)
      have T11 := Lib.hid (T10.out.trans (G11.below.mono T10.out.size))
      have B0_11 := Lib.hid (B0_10.out.keep G11)
      have B1_11 := Lib.hid (B1_10.out.keep G11)
      have B2_11 := Lib.hid (B2_10.out.keep G11)
      have B3_11 : Hid (Blk (w10.alloc (.cells #[.int .i64 0, .int .i64 0] 23)) (w10.heap.size) (.int .i64 0) (.int .i64 0)) := Lib.hid (Blk.at00 _ _ _ _)
      generalize hw11 : (w10.alloc (.cells #[.int .i64 0, .int .i64 0] 23)) = w11 at *
      clear hw11 G11
      clear bs0 bx0 by0 bf0 be0 bs1 bx1 by1 bf1 be1 bs2 bx2 by2 bf2 be2
      obtain ⟨bs0, bx0, by0, bf0, be0⟩ := B0_11.out
      obtain ⟨bs1, bx1, by1, bf1, be1⟩ := B1_11.out
      obtain ⟨bs2, bx2, by2, bf2, be2⟩ := B2_11.out
      obtain ⟨bs3, bx3, by3, bf3, be3⟩ := B3_11.out
      refine (HA2.out _).mono ?_
      rintro e12 w12 ⟨rfl, hg⟩
      have T12 := Lib.hid (T11.out.trans (hg.mono T11.out.size))
      have B0_12 := Lib.hid (B0_11.out.below hg)
      have B1_12 := Lib.hid (B1_11.out.below hg)
      have B2_12 := Lib.hid (B2_11.out.below hg)
      have B3_12 := Lib.hid (B3_11.out.below hg)
      clear hg
      clear bs0 bx0 by0 bf0 be0 bs1 bx1 by1 bf1 be1 bs2 bx2 by2 bf2 be2 bs3 bx3 by3 bf3 be3
      obtain ⟨bs0, bx0, by0, bf0, be0⟩ := B0_12.out
      obtain ⟨bs1, bx1, by1, bf1, be1⟩ := B1_12.out
      obtain ⟨bs2, bx2, by2, bf2, be2⟩ := B2_12.out
      obtain ⟨bs3, bx3, by3, bf3, be3⟩ := B3_12.out
      go_wp2_with fail
      have G13 : Gr w12 (w12.alloc (.cells #[.int .i64 yn, .int .i64 yd] 23)) := (Gr.one _ _)
      have T13 := Lib.hid (T12.out.trans (G13.below.mono T12.out.size))
      have B0_13 := Lib.hid (B0_12.out.keep G13)
      have B1_13 := Lib.hid (B1_12.out.keep G13)
      have B2_13 := Lib.hid (B2_12.out.keep G13)
      have B3_13 := Lib.hid (B3_12.out.keep G13)
      have B4_13 : Hid (Blk (w12.alloc (.cells #[.int .i64 yn, .int .i64 yd] 23)) (w12.heap.size) (.int .i64 yn) (.int .i64 yd)) := Lib.hid (Blk.at00 _ _ _ _)
      generalize hw13 : (w12.alloc (.cells #[.int .i64 yn, .int .i64 yd] 23)) = w13 at *
      clear hw13 G13
      clear bs0 bx0 by0 bf0 be0 bs1 bx1 by1 bf1 be1 bs2 bx2 by2 bf2 be2 bs3 bx3 by3 bf3 be3
      obtain ⟨bs0, bx0, by0, bf0, be0⟩ := B0_13.out
      obtain ⟨bs1, bx1, by1, bf1, be1⟩ := B1_13.out
      obtain ⟨bs2, bx2, by2, bf2, be2⟩ := B2_13.out
      obtain ⟨bs3, bx3, by3, bf3, be3⟩ := B3_13.out
      obtain ⟨bs4, bx4, by4, bf4, be4⟩ := B4_13.out
      go_wp2_with fail
      go_ret
      exact ⟨rfl, T13.out⟩
  · have hne := ne_bools (fun x => e0 (hz.2 x))
    clear hz
    by_cases e1 : k1 = 1
    · subst e1
      clear ht e0
      rcases hne with b1 | ⟨b1, b2⟩
      all_goals
        go_enter Tryd.func5, Tryd.ntmps5
        go_wp2_with fail
        have T0 := Lib.hid (Below.refl w.heap.size w)
        have G1 : Gr w (((w.alloc (.cells #[.int .i64 a, .int .i64 b] 23)).alloc (.cells #[.int .i64 c, .int .i64 d] 23)).alloc (.cells #[.int .i64 p, .int .i64 q] 23)) := (((Gr.one _ _).alloc _).alloc _)
        have T1 := Lib.hid (T0.out.trans (G1.below.mono T0.out.size))
        have B0_1 : Hid (Blk (((w.alloc (.cells #[.int .i64 a, .int .i64 b] 23)).alloc (.cells #[.int .i64 c, .int .i64 d] 23)).alloc (.cells #[.int .i64 p, .int .i64 q] 23)) (w.heap.size) (.int .i64 a) (.int .i64 b)) := Lib.hid (Blk.at02 _ _ _ _ _ _)
        have B1_1 : Hid (Blk (((w.alloc (.cells #[.int .i64 a, .int .i64 b] 23)).alloc (.cells #[.int .i64 c, .int .i64 d] 23)).alloc (.cells #[.int .i64 p, .int .i64 q] 23)) (w.heap.size + 1) (.int .i64 c) (.int .i64 d)) := Lib.hid (Blk.at11 _ _ _ _ _ _)
        have B2_1 : Hid (Blk (((w.alloc (.cells #[.int .i64 a, .int .i64 b] 23)).alloc (.cells #[.int .i64 c, .int .i64 d] 23)).alloc (.cells #[.int .i64 p, .int .i64 q] 23)) (w.heap.size + 1 + 1) (.int .i64 p) (.int .i64 q)) := Lib.hid (Blk.at20 _ _ _ _ _ _)
        generalize hw1 : (((w.alloc (.cells #[.int .i64 a, .int .i64 b] 23)).alloc (.cells #[.int .i64 c, .int .i64 d] 23)).alloc (.cells #[.int .i64 p, .int .i64 q] 23)) = w1 at *
        clear hw1 G1
        obtain ⟨bs0, bx0, by0, bf0, be0⟩ := B0_1.out
        obtain ⟨bs1, bx1, by1, bf1, be1⟩ := B1_1.out
        obtain ⟨bs2, bx2, by2, bf2, be2⟩ := B2_1.out
        refine (head_any _ (HL.out.keep T1.out)).mono ?_
        rintro e2 w2 ⟨rfl, hg⟩
        have T2 := Lib.hid (T1.out.trans (hg.mono T1.out.size))
        have B0_2 := Lib.hid (B0_1.out.below hg)
        have B1_2 := Lib.hid (B1_1.out.below hg)
        have B2_2 := Lib.hid (B2_1.out.below hg)
        clear hg
        clear bs0 bx0 by0 bf0 be0 bs1 bx1 by1 bf1 be1 bs2 bx2 by2 bf2 be2
        obtain ⟨bs0, bx0, by0, bf0, be0⟩ := B0_2.out
        obtain ⟨bs1, bx1, by1, bf1, be1⟩ := B1_2.out
        obtain ⟨bs2, bx2, by2, bf2, be2⟩ := B2_2.out
        go_wp2_with fail
        refine (HV1.out _).mono ?_
        rintro e3 w3 ⟨rfl, hg⟩
        replace hg := hg.below
        have T3 := Lib.hid (T2.out.trans (hg.mono T2.out.size))
        have B0_3 := Lib.hid (B0_2.out.below hg)
        have B1_3 := Lib.hid (B1_2.out.below hg)
        have B2_3 := Lib.hid (B2_2.out.below hg)
        clear hg
        clear bs0 bx0 by0 bf0 be0 bs1 bx1 by1 bf1 be1 bs2 bx2 by2 bf2 be2
        obtain ⟨bs0, bx0, by0, bf0, be0⟩ := B0_3.out
        obtain ⟨bs1, bx1, by1, bf1, be1⟩ := B1_3.out
        obtain ⟨bs2, bx2, by2, bf2, be2⟩ := B2_3.out
        go_wp2_with fail
        refine (HV2.out _).mono ?_
        rintro e4 w4 ⟨rfl, hg⟩
        replace hg := hg.below
        have T4 := Lib.hid (T3.out.trans (hg.mono T3.out.size))
        have B0_4 := Lib.hid (B0_3.out.below hg)
        have B1_4 := Lib.hid (B1_3.out.below hg)
        have B2_4 := Lib.hid (B2_3.out.below hg)
        clear hg
        clear bs0 bx0 by0 bf0 be0 bs1 bx1 by1 bf1 be1 bs2 bx2 by2 bf2 be2
        obtain ⟨bs0, bx0, by0, bf0, be0⟩ := B0_4.out
        obtain ⟨bs1, bx1, by1, bf1, be1⟩ := B1_4.out
        obtain ⟨bs2, bx2, by2, bf2, be2⟩ := B2_4.out
        go_wp2_with fail
        refine (HV3.out _).mono ?_
        rintro e5 w5 ⟨rfl, hg⟩
        replace hg := hg.below
        have T5 := Lib.hid (T4.out.trans (hg.mono T4.out.size))
        have B0_5 := Lib.hid (B0_4.out.below hg)
        have B1_5 := Lib.hid (B1_4.out.below hg)
        have B2_5 := Lib.hid (B2_4.out.below hg)
        clear hg
        clear bs0 bx0 by0 bf0 be0 bs1 bx1 by1 bf1 be1 bs2 bx2 by2 bf2 be2
        obtain ⟨bs0, bx0, by0, bf0, be0⟩ := B0_5.out
        obtain ⟨bs1, bx1, by1, bf1, be1⟩ := B1_5.out
        obtain ⟨bs2, bx2, by2, bf2, be2⟩ := B2_5.out
        go_wp2_with fail
        refine (HC1.out _).mono ?_
        rintro e6 w6 ⟨rfl, hg⟩
        replace hg := hg.below
        have T6 := Lib.hid (T5.out.trans (hg.mono T5.out.size))
        have B0_6 := Lib.hid (B0_5.out.below hg)
        have B1_6 := Lib.hid (B1_5.out.below hg)
        have B2_6 := Lib.hid (B2_5.out.below hg)
        clear hg
        clear bs0 bx0 by0 bf0 be0 bs1 bx1 by1 bf1 be1 bs2 bx2 by2 bf2 be2
        obtain ⟨bs0, bx0, by0, bf0, be0⟩ := B0_6.out
        obtain ⟨bs1, bx1, by1, bf1, be1⟩ := B1_6.out
        obtain ⟨bs2, bx2, by2, bf2, be2⟩ := B2_6.out
        go_wp2_with fail
        refine (HC2.out _).mono ?_
        rintro e7 w7 ⟨rfl, hg⟩
        replace hg := hg.below
        have T7 := Lib.hid (T6.out.trans (hg.mono T6.out.size))
        have B0_7 := Lib.hid (B0_6.out.below hg)
        have B1_7 := Lib.hid (B1_6.out.below hg)
        have B2_7 := Lib.hid (B2_6.out.below hg)
        clear hg
        clear bs0 bx0 by0 bf0 be0 bs1 bx1 by1 bf1 be1 bs2 bx2 by2 bf2 be2
        obtain ⟨bs0, bx0, by0, bf0, be0⟩ := B0_7.out
        obtain ⟨bs1, bx1, by1, bf1, be1⟩ := B1_7.out
        obtain ⟨bs2, bx2, by2, bf2, be2⟩ := B2_7.out
        go_wp2_with fail
        refine (HC3.out _).mono ?_
        rintro e8 w8 ⟨rfl, hg⟩
        replace hg := hg.below
        have T8 := Lib.hid (T7.out.trans (hg.mono T7.out.size))
        have B0_8 := Lib.hid (B0_7.out.below hg)
        have B1_8 := Lib.hid (B1_7.out.below hg)
        have B2_8 := Lib.hid (B2_7.out.below hg)
        clear hg
        clear bs0 bx0 by0 bf0 be0 bs1 bx1 by1 bf1 be1 bs2 bx2 by2 bf2 be2
        obtain ⟨bs0, bx0, by0, bf0, be0⟩ := B0_8.out
        obtain ⟨bs1, bx1, by1, bf1, be1⟩ := B1_8.out
        obtain ⟨bs2, bx2, by2, bf2, be2⟩ := B2_8.out
        go_wp2_with fail
        refine (HC4.out _).mono ?_
        rintro e9 w9 ⟨rfl, hg⟩
        replace hg := hg.below
        have T9 := Lib.hid (T8.out.trans (hg.mono T8.out.size))
        have B0_9 := Lib.hid (B0_8.out.below hg)
        have B1_9 := Lib.hid (B1_8.out.below hg)
        have B2_9 := Lib.hid (B2_8.out.below hg)
        clear hg
        clear bs0 bx0 by0 bf0 be0 bs1 bx1 by1 bf1 be1 bs2 bx2 by2 bf2 be2
        obtain ⟨bs0, bx0, by0, bf0, be0⟩ := B0_9.out
        obtain ⟨bs1, bx1, by1, bf1, be1⟩ := B1_9.out
        obtain ⟨bs2, bx2, by2, bf2, be2⟩ := B2_9.out
        go_wp2_with fail
        refine (HA1.out _).mono ?_
        rintro e10 w10 ⟨rfl, hg⟩
        have T10 := Lib.hid (T9.out.trans (hg.mono T9.out.size))
        have B0_10 := Lib.hid (B0_9.out.below hg)
        have B1_10 := Lib.hid (B1_9.out.below hg)
        have B2_10 := Lib.hid (B2_9.out.below hg)
        clear hg
        clear bs0 bx0 by0 bf0 be0 bs1 bx1 by1 bf1 be1 bs2 bx2 by2 bf2 be2
        obtain ⟨bs0, bx0, by0, bf0, be0⟩ := B0_10.out
        obtain ⟨bs1, bx1, by1, bf1, be1⟩ := B1_10.out
        obtain ⟨bs2, bx2, by2, bf2, be2⟩ := B2_10.out
        go_wp2_with fail
        have G11 : Gr w10 (w10.alloc (.cells #[.int .i64 0, .int .i64 0] 23)) := (Gr.one _ _)
        have T11 := Lib.hid (T10.out.trans (G11.below.mono T10.out.size))
        have B0_11 := Lib.hid (B0_10.out.keep G11)
        have B1_11 := Lib.hid (B1_10.out.keep G11)
        have B2_11 := Lib.hid (B2_10.out.keep G11)
        have B3_11 : Hid (Blk (w10.alloc (.cells #[.int .i64 0, .int .i64 0] 23)) (w10.heap.size) (.int .i64 0) (.int .i64 0)) := Lib.hid (Blk.at00 _ _ _ _)
        generalize hw11 : (w10.alloc (.cells #[.int .i64 0, .int .i64 0] 23)) = w11 at *
        clear hw11 G11
        clear bs0 bx0 by0 bf0 be0 bs1 bx1 by1 bf1 be1 bs2 bx2 by2 bf2 be2
        obtain ⟨bs0, bx0, by0, bf0, be0⟩ := B0_11.out
        obtain ⟨bs1, bx1, by1, bf1, be1⟩ := B1_11.out
        obtain ⟨bs2, bx2, by2, bf2, be2⟩ := B2_11.out
        obtain ⟨bs3, bx3, by3, bf3, be3⟩ := B3_11.out
        refine (HA2.out _).mono ?_
        rintro e12 w12 ⟨rfl, hg⟩
        have T12 := Lib.hid (T11.out.trans (hg.mono T11.out.size))
        have B0_12 := Lib.hid (B0_11.out.below hg)
        have B1_12 := Lib.hid (B1_11.out.below hg)
        have B2_12 := Lib.hid (B2_11.out.below hg)
        have B3_12 := Lib.hid (B3_11.out.below hg)
        clear hg
        clear bs0 bx0 by0 bf0 be0 bs1 bx1 by1 bf1 be1 bs2 bx2 by2 bf2 be2 bs3 bx3 by3 bf3 be3
        obtain ⟨bs0, bx0, by0, bf0, be0⟩ := B0_12.out
        obtain ⟨bs1, bx1, by1, bf1, be1⟩ := B1_12.out
        obtain ⟨bs2, bx2, by2, bf2, be2⟩ := B2_12.out
        obtain ⟨bs3, bx3, by3, bf3, be3⟩ := B3_12.out
        go_wp2_with fail
        have G13 : Gr w12 (w12.alloc (.cells #[.int .i64 yn, .int .i64 yd] 23)) := (Gr.one _ _)
        have T13 := Lib.hid (T12.out.trans (G13.below.mono T12.out.size))
        have B0_13 := Lib.hid (B0_12.out.keep G13)
        have B1_13 := Lib.hid (B1_12.out.keep G13)
        have B2_13 := Lib.hid (B2_12.out.keep G13)
        have B3_13 := Lib.hid (B3_12.out.keep G13)
        have B4_13 : Hid (Blk (w12.alloc (.cells #[.int .i64 yn, .int .i64 yd] 23)) (w12.heap.size) (.int .i64 yn) (.int .i64 yd)) := Lib.hid (Blk.at00 _ _ _ _)
        generalize hw13 : (w12.alloc (.cells #[.int .i64 yn, .int .i64 yd] 23)) = w13 at *
        clear hw13 G13
        clear bs0 bx0 by0 bf0 be0 bs1 bx1 by1 bf1 be1 bs2 bx2 by2 bf2 be2 bs3 bx3 by3 bf3 be3
        obtain ⟨bs0, bx0, by0, bf0, be0⟩ := B0_13.out
        obtain ⟨bs1, bx1, by1, bf1, be1⟩ := B1_13.out
        obtain ⟨bs2, bx2, by2, bf2, be2⟩ := B2_13.out
        obtain ⟨bs3, bx3, by3, bf3, be3⟩ := B3_13.out
        obtain ⟨bs4, bx4, by4, bf4, be4⟩ := B4_13.out
        go_wp2_with fail
        go_ret
        exact ⟨rfl, T13.out⟩
    · obtain rfl : k1 = -1 := by omega
      clear e0 e1
      by_cases e3 : k3 ≤ 0
      · have e4 := (ht (by decide) e3).2 (by decide)
        clear ht
        rcases hne with b1 | ⟨b1, b2⟩
        all_goals
          go_enter Tryd.func5, Tryd.ntmps5
          go_wp2_with fail
          have T0 := Lib.hid (Below.refl w.heap.size w)
          have G1 : Gr w (((w.alloc (.cells #[.int .i64 a, .int .i64 b] 23)).alloc (.cells #[.int .i64 c, .int .i64 d] 23)).alloc (.cells #[.int .i64 p, .int .i64 q] 23)) := (((Gr.one _ _).alloc _).alloc _)
          have T1 := Lib.hid (T0.out.trans (G1.below.mono T0.out.size))
          have B0_1 : Hid (Blk (((w.alloc (.cells #[.int .i64 a, .int .i64 b] 23)).alloc (.cells #[.int .i64 c, .int .i64 d] 23)).alloc (.cells #[.int .i64 p, .int .i64 q] 23)) (w.heap.size) (.int .i64 a) (.int .i64 b)) := Lib.hid (Blk.at02 _ _ _ _ _ _)
          have B1_1 : Hid (Blk (((w.alloc (.cells #[.int .i64 a, .int .i64 b] 23)).alloc (.cells #[.int .i64 c, .int .i64 d] 23)).alloc (.cells #[.int .i64 p, .int .i64 q] 23)) (w.heap.size + 1) (.int .i64 c) (.int .i64 d)) := Lib.hid (Blk.at11 _ _ _ _ _ _)
          have B2_1 : Hid (Blk (((w.alloc (.cells #[.int .i64 a, .int .i64 b] 23)).alloc (.cells #[.int .i64 c, .int .i64 d] 23)).alloc (.cells #[.int .i64 p, .int .i64 q] 23)) (w.heap.size + 1 + 1) (.int .i64 p) (.int .i64 q)) := Lib.hid (Blk.at20 _ _ _ _ _ _)
          generalize hw1 : (((w.alloc (.cells #[.int .i64 a, .int .i64 b] 23)).alloc (.cells #[.int .i64 c, .int .i64 d] 23)).alloc (.cells #[.int .i64 p, .int .i64 q] 23)) = w1 at *
          clear hw1 G1
          obtain ⟨bs0, bx0, by0, bf0, be0⟩ := B0_1.out
          obtain ⟨bs1, bx1, by1, bf1, be1⟩ := B1_1.out
          obtain ⟨bs2, bx2, by2, bf2, be2⟩ := B2_1.out
          refine (head_any _ (HL.out.keep T1.out)).mono ?_
          rintro e2 w2 ⟨rfl, hg⟩
          have T2 := Lib.hid (T1.out.trans (hg.mono T1.out.size))
          have B0_2 := Lib.hid (B0_1.out.below hg)
          have B1_2 := Lib.hid (B1_1.out.below hg)
          have B2_2 := Lib.hid (B2_1.out.below hg)
          clear hg
          clear bs0 bx0 by0 bf0 be0 bs1 bx1 by1 bf1 be1 bs2 bx2 by2 bf2 be2
          obtain ⟨bs0, bx0, by0, bf0, be0⟩ := B0_2.out
          obtain ⟨bs1, bx1, by1, bf1, be1⟩ := B1_2.out
          obtain ⟨bs2, bx2, by2, bf2, be2⟩ := B2_2.out
          go_wp2_with fail
          refine (HV1.out _).mono ?_
          rintro e3 w3 ⟨rfl, hg⟩
          replace hg := hg.below
          have T3 := Lib.hid (T2.out.trans (hg.mono T2.out.size))
          have B0_3 := Lib.hid (B0_2.out.below hg)
          have B1_3 := Lib.hid (B1_2.out.below hg)
          have B2_3 := Lib.hid (B2_2.out.below hg)
          clear hg
          clear bs0 bx0 by0 bf0 be0 bs1 bx1 by1 bf1 be1 bs2 bx2 by2 bf2 be2
          obtain ⟨bs0, bx0, by0, bf0, be0⟩ := B0_3.out
          obtain ⟨bs1, bx1, by1, bf1, be1⟩ := B1_3.out
          obtain ⟨bs2, bx2, by2, bf2, be2⟩ := B2_3.out
          go_wp2_with fail
          refine (HV2.out _).mono ?_
          rintro e4 w4 ⟨rfl, hg⟩
          replace hg := hg.below
          have T4 := Lib.hid (T3.out.trans (hg.mono T3.out.size))
          have B0_4 := Lib.hid (B0_3.out.below hg)
          have B1_4 := Lib.hid (B1_3.out.below hg)
          have B2_4 := Lib.hid (B2_3.out.below hg)
          clear hg
          clear bs0 bx0 by0 bf0 be0 bs1 bx1 by1 bf1 be1 bs2 bx2 by2 bf2 be2
          obtain ⟨bs0, bx0, by0, bf0, be0⟩ := B0_4.out
          obtain ⟨bs1, bx1, by1, bf1, be1⟩ := B1_4.out
          obtain ⟨bs2, bx2, by2, bf2, be2⟩ := B2_4.out
          go_wp2_with fail
          refine (HV3.out _).mono ?_
          rintro e5 w5 ⟨rfl, hg⟩
          replace hg := hg.below
          have T5 := Lib.hid (T4.out.trans (hg.mono T4.out.size))
          have B0_5 := Lib.hid (B0_4.out.below hg)
          have B1_5 := Lib.hid (B1_4.out.below hg)
          have B2_5 := Lib.hid (B2_4.out.below hg)
          clear hg
          clear bs0 bx0 by0 bf0 be0 bs1 bx1 by1 bf1 be1 bs2 bx2 by2 bf2 be2
          obtain ⟨bs0, bx0, by0, bf0, be0⟩ := B0_5.out
          obtain ⟨bs1, bx1, by1, bf1, be1⟩ := B1_5.out
          obtain ⟨bs2, bx2, by2, bf2, be2⟩ := B2_5.out
          go_wp2_with fail
          refine (HC1.out _).mono ?_
          rintro e6 w6 ⟨rfl, hg⟩
          replace hg := hg.below
          have T6 := Lib.hid (T5.out.trans (hg.mono T5.out.size))
          have B0_6 := Lib.hid (B0_5.out.below hg)
          have B1_6 := Lib.hid (B1_5.out.below hg)
          have B2_6 := Lib.hid (B2_5.out.below hg)
          clear hg
          clear bs0 bx0 by0 bf0 be0 bs1 bx1 by1 bf1 be1 bs2 bx2 by2 bf2 be2
          obtain ⟨bs0, bx0, by0, bf0, be0⟩ := B0_6.out
          obtain ⟨bs1, bx1, by1, bf1, be1⟩ := B1_6.out
          obtain ⟨bs2, bx2, by2, bf2, be2⟩ := B2_6.out
          go_wp2_with fail
          refine (HC2.out _).mono ?_
          rintro e7 w7 ⟨rfl, hg⟩
          replace hg := hg.below
          have T7 := Lib.hid (T6.out.trans (hg.mono T6.out.size))
          have B0_7 := Lib.hid (B0_6.out.below hg)
          have B1_7 := Lib.hid (B1_6.out.below hg)
          have B2_7 := Lib.hid (B2_6.out.below hg)
          clear hg
          clear bs0 bx0 by0 bf0 be0 bs1 bx1 by1 bf1 be1 bs2 bx2 by2 bf2 be2
          obtain ⟨bs0, bx0, by0, bf0, be0⟩ := B0_7.out
          obtain ⟨bs1, bx1, by1, bf1, be1⟩ := B1_7.out
          obtain ⟨bs2, bx2, by2, bf2, be2⟩ := B2_7.out
          go_wp2_with fail
          refine (HC3.out _).mono ?_
          rintro e8 w8 ⟨rfl, hg⟩
          replace hg := hg.below
          have T8 := Lib.hid (T7.out.trans (hg.mono T7.out.size))
          have B0_8 := Lib.hid (B0_7.out.below hg)
          have B1_8 := Lib.hid (B1_7.out.below hg)
          have B2_8 := Lib.hid (B2_7.out.below hg)
          clear hg
          clear bs0 bx0 by0 bf0 be0 bs1 bx1 by1 bf1 be1 bs2 bx2 by2 bf2 be2
          obtain ⟨bs0, bx0, by0, bf0, be0⟩ := B0_8.out
          obtain ⟨bs1, bx1, by1, bf1, be1⟩ := B1_8.out
          obtain ⟨bs2, bx2, by2, bf2, be2⟩ := B2_8.out
          go_wp2_with fail
          refine (HC4.out _).mono ?_
          rintro e9 w9 ⟨rfl, hg⟩
          replace hg := hg.below
          have T9 := Lib.hid (T8.out.trans (hg.mono T8.out.size))
          have B0_9 := Lib.hid (B0_8.out.below hg)
          have B1_9 := Lib.hid (B1_8.out.below hg)
          have B2_9 := Lib.hid (B2_8.out.below hg)
          clear hg
          clear bs0 bx0 by0 bf0 be0 bs1 bx1 by1 bf1 be1 bs2 bx2 by2 bf2 be2
          obtain ⟨bs0, bx0, by0, bf0, be0⟩ := B0_9.out
          obtain ⟨bs1, bx1, by1, bf1, be1⟩ := B1_9.out
          obtain ⟨bs2, bx2, by2, bf2, be2⟩ := B2_9.out
          go_wp2_with fail
          refine (HA1.out _).mono ?_
          rintro e10 w10 ⟨rfl, hg⟩
          have T10 := Lib.hid (T9.out.trans (hg.mono T9.out.size))
          have B0_10 := Lib.hid (B0_9.out.below hg)
          have B1_10 := Lib.hid (B1_9.out.below hg)
          have B2_10 := Lib.hid (B2_9.out.below hg)
          clear hg
          clear bs0 bx0 by0 bf0 be0 bs1 bx1 by1 bf1 be1 bs2 bx2 by2 bf2 be2
          obtain ⟨bs0, bx0, by0, bf0, be0⟩ := B0_10.out
          obtain ⟨bs1, bx1, by1, bf1, be1⟩ := B1_10.out
          obtain ⟨bs2, bx2, by2, bf2, be2⟩ := B2_10.out
          go_wp2_with fail
          have G11 : Gr w10 (w10.alloc (.cells #[.int .i64 0, .int .i64 0] 23)) := (Gr.one _ _)
          have T11 := Lib.hid (T10.out.trans (G11.below.mono T10.out.size))
          have B0_11 := Lib.hid (B0_10.out.keep G11)
          have B1_11 := Lib.hid (B1_10.out.keep G11)
          have B2_11 := Lib.hid (B2_10.out.keep G11)
          have B3_11 : Hid (Blk (w10.alloc (.cells #[.int .i64 0, .int .i64 0] 23)) (w10.heap.size) (.int .i64 0) (.int .i64 0)) := Lib.hid (Blk.at00 _ _ _ _)
          generalize hw11 : (w10.alloc (.cells #[.int .i64 0, .int .i64 0] 23)) = w11 at *
          clear hw11 G11
          clear bs0 bx0 by0 bf0 be0 bs1 bx1 by1 bf1 be1 bs2 bx2 by2 bf2 be2
          obtain ⟨bs0, bx0, by0, bf0, be0⟩ := B0_11.out
          obtain ⟨bs1, bx1, by1, bf1, be1⟩ := B1_11.out
          obtain ⟨bs2, bx2, by2, bf2, be2⟩ := B2_11.out
          obtain ⟨bs3, bx3, by3, bf3, be3⟩ := B3_11.out
          refine (HA2.out _).mono ?_
          rintro e12 w12 ⟨rfl, hg⟩
          have T12 := Lib.hid (T11.out.trans (hg.mono T11.out.size))
          have B0_12 := Lib.hid (B0_11.out.below hg)
          have B1_12 := Lib.hid (B1_11.out.below hg)
          have B2_12 := Lib.hid (B2_11.out.below hg)
          have B3_12 := Lib.hid (B3_11.out.below hg)
          clear hg
          clear bs0 bx0 by0 bf0 be0 bs1 bx1 by1 bf1 be1 bs2 bx2 by2 bf2 be2 bs3 bx3 by3 bf3 be3
          obtain ⟨bs0, bx0, by0, bf0, be0⟩ := B0_12.out
          obtain ⟨bs1, bx1, by1, bf1, be1⟩ := B1_12.out
          obtain ⟨bs2, bx2, by2, bf2, be2⟩ := B2_12.out
          obtain ⟨bs3, bx3, by3, bf3, be3⟩ := B3_12.out
          go_wp2_with fail
          have G13 : Gr w12 (w12.alloc (.cells #[.int .i64 yn, .int .i64 yd] 23)) := (Gr.one _ _)
          have T13 := Lib.hid (T12.out.trans (G13.below.mono T12.out.size))
          have B0_13 := Lib.hid (B0_12.out.keep G13)
          have B1_13 := Lib.hid (B1_12.out.keep G13)
          have B2_13 := Lib.hid (B2_12.out.keep G13)
          have B3_13 := Lib.hid (B3_12.out.keep G13)
          have B4_13 : Hid (Blk (w12.alloc (.cells #[.int .i64 yn, .int .i64 yd] 23)) (w12.heap.size) (.int .i64 yn) (.int .i64 yd)) := Lib.hid (Blk.at00 _ _ _ _)
          generalize hw13 : (w12.alloc (.cells #[.int .i64 yn, .int .i64 yd] 23)) = w13 at *
          clear hw13 G13
          clear bs0 bx0 by0 bf0 be0 bs1 bx1 by1 bf1 be1 bs2 bx2 by2 bf2 be2 bs3 bx3 by3 bf3 be3
          obtain ⟨bs0, bx0, by0, bf0, be0⟩ := B0_13.out
          obtain ⟨bs1, bx1, by1, bf1, be1⟩ := B1_13.out
          obtain ⟨bs2, bx2, by2, bf2, be2⟩ := B2_13.out
          obtain ⟨bs3, bx3, by3, bf3, be3⟩ := B3_13.out
          obtain ⟨bs4, bx4, by4, bf4, be4⟩ := B4_13.out
          go_wp2_with fail
          go_ret
          exact ⟨rfl, T13.out⟩
      · clear ht
        rcases hne with b1 | ⟨b1, b2⟩
        all_goals
          go_enter Tryd.func5, Tryd.ntmps5
          go_wp2_with fail
          have T0 := Lib.hid (Below.refl w.heap.size w)
          have G1 : Gr w (((w.alloc (.cells #[.int .i64 a, .int .i64 b] 23)).alloc (.cells #[.int .i64 c, .int .i64 d] 23)).alloc (.cells #[.int .i64 p, .int .i64 q] 23)) := (((Gr.one _ _).alloc _).alloc _)
          have T1 := Lib.hid (T0.out.trans (G1.below.mono T0.out.size))
          have B0_1 : Hid (Blk (((w.alloc (.cells #[.int .i64 a, .int .i64 b] 23)).alloc (.cells #[.int .i64 c, .int .i64 d] 23)).alloc (.cells #[.int .i64 p, .int .i64 q] 23)) (w.heap.size) (.int .i64 a) (.int .i64 b)) := Lib.hid (Blk.at02 _ _ _ _ _ _)
          have B1_1 : Hid (Blk (((w.alloc (.cells #[.int .i64 a, .int .i64 b] 23)).alloc (.cells #[.int .i64 c, .int .i64 d] 23)).alloc (.cells #[.int .i64 p, .int .i64 q] 23)) (w.heap.size + 1) (.int .i64 c) (.int .i64 d)) := Lib.hid (Blk.at11 _ _ _ _ _ _)
          have B2_1 : Hid (Blk (((w.alloc (.cells #[.int .i64 a, .int .i64 b] 23)).alloc (.cells #[.int .i64 c, .int .i64 d] 23)).alloc (.cells #[.int .i64 p, .int .i64 q] 23)) (w.heap.size + 1 + 1) (.int .i64 p) (.int .i64 q)) := Lib.hid (Blk.at20 _ _ _ _ _ _)
          generalize hw1 : (((w.alloc (.cells #[.int .i64 a, .int .i64 b] 23)).alloc (.cells #[.int .i64 c, .int .i64 d] 23)).alloc (.cells #[.int .i64 p, .int .i64 q] 23)) = w1 at *
          clear hw1 G1
          obtain ⟨bs0, bx0, by0, bf0, be0⟩ := B0_1.out
          obtain ⟨bs1, bx1, by1, bf1, be1⟩ := B1_1.out
          obtain ⟨bs2, bx2, by2, bf2, be2⟩ := B2_1.out
          refine (head_any _ (HL.out.keep T1.out)).mono ?_
          rintro e2 w2 ⟨rfl, hg⟩
          have T2 := Lib.hid (T1.out.trans (hg.mono T1.out.size))
          have B0_2 := Lib.hid (B0_1.out.below hg)
          have B1_2 := Lib.hid (B1_1.out.below hg)
          have B2_2 := Lib.hid (B2_1.out.below hg)
          clear hg
          clear bs0 bx0 by0 bf0 be0 bs1 bx1 by1 bf1 be1 bs2 bx2 by2 bf2 be2
          obtain ⟨bs0, bx0, by0, bf0, be0⟩ := B0_2.out
          obtain ⟨bs1, bx1, by1, bf1, be1⟩ := B1_2.out
          obtain ⟨bs2, bx2, by2, bf2, be2⟩ := B2_2.out
          go_wp2_with fail
          refine (HV1.out _).mono ?_
          rintro e3 w3 ⟨rfl, hg⟩
          replace hg := hg.below
          have T3 := Lib.hid (T2.out.trans (hg.mono T2.out.size))
          have B0_3 := Lib.hid (B0_2.out.below hg)
          have B1_3 := Lib.hid (B1_2.out.below hg)
          have B2_3 := Lib.hid (B2_2.out.below hg)
          clear hg
          clear bs0 bx0 by0 bf0 be0 bs1 bx1 by1 bf1 be1 bs2 bx2 by2 bf2 be2
          obtain ⟨bs0, bx0, by0, bf0, be0⟩ := B0_3.out
          obtain ⟨bs1, bx1, by1, bf1, be1⟩ := B1_3.out
          obtain ⟨bs2, bx2, by2, bf2, be2⟩ := B2_3.out
          go_wp2_with fail
          refine (HV2.out _).mono ?_
          rintro e4 w4 ⟨rfl, hg⟩
          replace hg := hg.below
          have T4 := Lib.hid (T3.out.trans (hg.mono T3.out.size))
          have B0_4 := Lib.hid (B0_3.out.below hg)
          have B1_4 := Lib.hid (B1_3.out.below hg)
          have B2_4 := Lib.hid (B2_3.out.below hg)
          clear hg
          clear bs0 bx0 by0 bf0 be0 bs1 bx1 by1 bf1 be1 bs2 bx2 by2 bf2 be2
          obtain ⟨bs0, bx0, by0, bf0, be0⟩ := B0_4.out
          obtain ⟨bs1, bx1, by1, bf1, be1⟩ := B1_4.out
          obtain ⟨bs2, bx2, by2, bf2, be2⟩ := B2_4.out
          go_wp2_with fail
          refine (HV3.out _).mono ?_
          rintro e5 w5 ⟨rfl, hg⟩
          replace hg := hg.below
          have T5 := Lib.hid (T4.out.trans (hg.mono T4.out.size))
          have B0_5 := Lib.hid (B0_4.out.below hg)
          have B1_5 := Lib.hid (B1_4.out.below hg)
          have B2_5 := Lib.hid (B2_4.out.below hg)
          clear hg
          clear bs0 bx0 by0 bf0 be0 bs1 bx1 by1 bf1 be1 bs2 bx2 by2 bf2 be2
          obtain ⟨bs0, bx0, by0, bf0, be0⟩ := B0_5.out
          obtain ⟨bs1, bx1, by1, bf1, be1⟩ := B1_5.out
          obtain ⟨bs2, bx2, by2, bf2, be2⟩ := B2_5.out
          go_wp2_with fail
          refine (HC1.out _).mono ?_
          rintro e6 w6 ⟨rfl, hg⟩
          replace hg := hg.below
          have T6 := Lib.hid (T5.out.trans (hg.mono T5.out.size))
          have B0_6 := Lib.hid (B0_5.out.below hg)
          have B1_6 := Lib.hid (B1_5.out.below hg)
          have B2_6 := Lib.hid (B2_5.out.below hg)
          clear hg
          clear bs0 bx0 by0 bf0 be0 bs1 bx1 by1 bf1 be1 bs2 bx2 by2 bf2 be2
          obtain ⟨bs0, bx0, by0, bf0, be0⟩ := B0_6.out
          obtain ⟨bs1, bx1, by1, bf1, be1⟩ := B1_6.out
          obtain ⟨bs2, bx2, by2, bf2, be2⟩ := B2_6.out
          go_wp2_with fail
          refine (HC2.out _).mono ?_
          rintro e7 w7 ⟨rfl, hg⟩
          replace hg := hg.below
          have T7 := Lib.hid (T6.out.trans (hg.mono T6.out.size))
          have B0_7 := Lib.hid (B0_6.out.below hg)
          have B1_7 := Lib.hid (B1_6.out.below hg)
          have B2_7 := Lib.hid (B2_6.out.below hg)
          clear hg
          clear bs0 bx0 by0 bf0 be0 bs1 bx1 by1 bf1 be1 bs2 bx2 by2 bf2 be2
          obtain ⟨bs0, bx0, by0, bf0, be0⟩ := B0_7.out
          obtain ⟨bs1, bx1, by1, bf1, be1⟩ := B1_7.out
          obtain ⟨bs2, bx2, by2, bf2, be2⟩ := B2_7.out
          go_wp2_with fail
          refine (HC3.out _).mono ?_
          rintro e8 w8 ⟨rfl, hg⟩
          replace hg := hg.below
          have T8 := Lib.hid (T7.out.trans (hg.mono T7.out.size))
          have B0_8 := Lib.hid (B0_7.out.below hg)
          have B1_8 := Lib.hid (B1_7.out.below hg)
          have B2_8 := Lib.hid (B2_7.out.below hg)
          clear hg
          clear bs0 bx0 by0 bf0 be0 bs1 bx1 by1 bf1 be1 bs2 bx2 by2 bf2 be2
          obtain ⟨bs0, bx0, by0, bf0, be0⟩ := B0_8.out
          obtain ⟨bs1, bx1, by1, bf1, be1⟩ := B1_8.out
          obtain ⟨bs2, bx2, by2, bf2, be2⟩ := B2_8.out
          go_wp2_with fail
          refine (HC4.out _).mono ?_
          rintro e9 w9 ⟨rfl, hg⟩
          replace hg := hg.below
          have T9 := Lib.hid (T8.out.trans (hg.mono T8.out.size))
          have B0_9 := Lib.hid (B0_8.out.below hg)
          have B1_9 := Lib.hid (B1_8.out.below hg)
          have B2_9 := Lib.hid (B2_8.out.below hg)
          clear hg
          clear bs0 bx0 by0 bf0 be0 bs1 bx1 by1 bf1 be1 bs2 bx2 by2 bf2 be2
          obtain ⟨bs0, bx0, by0, bf0, be0⟩ := B0_9.out
          obtain ⟨bs1, bx1, by1, bf1, be1⟩ := B1_9.out
          obtain ⟨bs2, bx2, by2, bf2, be2⟩ := B2_9.out
          go_wp2_with fail
          refine (HA1.out _).mono ?_
          rintro e10 w10 ⟨rfl, hg⟩
          have T10 := Lib.hid (T9.out.trans (hg.mono T9.out.size))
          have B0_10 := Lib.hid (B0_9.out.below hg)
          have B1_10 := Lib.hid (B1_9.out.below hg)
          have B2_10 := Lib.hid (B2_9.out.below hg)
          clear hg
          clear bs0 bx0 by0 bf0 be0 bs1 bx1 by1 bf1 be1 bs2 bx2 by2 bf2 be2
          obtain ⟨bs0, bx0, by0, bf0, be0⟩ := B0_10.out
          obtain ⟨bs1, bx1, by1, bf1, be1⟩ := B1_10.out
          obtain ⟨bs2, bx2, by2, bf2, be2⟩ := B2_10.out
          go_wp2_with fail
          have G11 : Gr w10 (w10.alloc (.cells #[.int .i64 0, .int .i64 0] 23)) := (Gr.one _ _)
          have T11 := Lib.hid (T10.out.trans (G11.below.mono T10.out.size))
          have B0_11 := Lib.hid (B0_10.out.keep G11)
          have B1_11 := Lib.hid (B1_10.out.keep G11)
          have B2_11 := Lib.hid (B2_10.out.keep G11)
          have B3_11 : Hid (Blk (w10.alloc (.cells #[.int .i64 0, .int .i64 0] 23)) (w10.heap.size) (.int .i64 0) (.int .i64 0)) := Lib.hid (Blk.at00 _ _ _ _)
          generalize hw11 : (w10.alloc (.cells #[.int .i64 0, .int .i64 0] 23)) = w11 at *
          clear hw11 G11
          clear bs0 bx0 by0 bf0 be0 bs1 bx1 by1 bf1 be1 bs2 bx2 by2 bf2 be2
          obtain ⟨bs0, bx0, by0, bf0, be0⟩ := B0_11.out
          obtain ⟨bs1, bx1, by1, bf1, be1⟩ := B1_11.out
          obtain ⟨bs2, bx2, by2, bf2, be2⟩ := B2_11.out
          obtain ⟨bs3, bx3, by3, bf3, be3⟩ := B3_11.out
          refine (HA2.out _).mono ?_
          rintro e12 w12 ⟨rfl, hg⟩
          have T12 := Lib.hid (T11.out.trans (hg.mono T11.out.size))
          have B0_12 := Lib.hid (B0_11.out.below hg)
          have B1_12 := Lib.hid (B1_11.out.below hg)
          have B2_12 := Lib.hid (B2_11.out.below hg)
          have B3_12 := Lib.hid (B3_11.out.below hg)
          clear hg
          clear bs0 bx0 by0 bf0 be0 bs1 bx1 by1 bf1 be1 bs2 bx2 by2 bf2 be2 bs3 bx3 by3 bf3 be3
          obtain ⟨bs0, bx0, by0, bf0, be0⟩ := B0_12.out
          obtain ⟨bs1, bx1, by1, bf1, be1⟩ := B1_12.out
          obtain ⟨bs2, bx2, by2, bf2, be2⟩ := B2_12.out
          obtain ⟨bs3, bx3, by3, bf3, be3⟩ := B3_12.out
          go_wp2_with fail
          have G13 : Gr w12 (w12.alloc (.cells #[.int .i64 yn, .int .i64 yd] 23)) := (Gr.one _ _)
          have T13 := Lib.hid (T12.out.trans (G13.below.mono T12.out.size))
          have B0_13 := Lib.hid (B0_12.out.keep G13)
          have B1_13 := Lib.hid (B1_12.out.keep G13)
          have B2_13 := Lib.hid (B2_12.out.keep G13)
          have B3_13 := Lib.hid (B3_12.out.keep G13)
          have B4_13 : Hid (Blk (w12.alloc (.cells #[.int .i64 yn, .int .i64 yd] 23)) (w12.heap.size) (.int .i64 yn) (.int .i64 yd)) := Lib.hid (Blk.at00 _ _ _ _)
          generalize hw13 : (w12.alloc (.cells #[.int .i64 yn, .int .i64 yd] 23)) = w13 at *
          clear hw13 G13
          clear bs0 bx0 by0 bf0 be0 bs1 bx1 by1 bf1 be1 bs2 bx2 by2 bf2 be2 bs3 bx3 by3 bf3 be3
          obtain ⟨bs0, bx0, by0, bf0, be0⟩ := B0_13.out
          obtain ⟨bs1, bx1, by1, bf1, be1⟩ := B1_13.out
          obtain ⟨bs2, bx2, by2, bf2, be2⟩ := B2_13.out
          obtain ⟨bs3, bx3, by3, bf3, be3⟩ := B3_13.out
          obtain ⟨bs4, bx4, by4, bf4, be4⟩ := B4_13.out
          go_wp2_with fail
          go_ret
          exact ⟨rfl, T13.out⟩
set_option maxRecDepth 100000 in
set_option maxHeartbeats 8000000 in
theorem order_way2 (a b c d p q k1 k3 k4 xn xd  : Int) (w : World) (hk : -1 ≤ k1 ∧ k1 ≤ 1) (hz : k1 = 0 ↔ (a = c ∧ b = d)) (ht : k1 ≤ 0 → k3 ≤ 0 → k4 ≤ 0 ∧ (k1 < 0 → k4 < 0)) (HL : Hid (Laid w)) (HV1 : Hid (∀ W, Calls Tryd.prog 16 #[.agg #[.int .i64 a, .int .i64 b]] W fun e w' => e = .returned (.bool true) ∧ Gr W w')) (HV2 : Hid (∀ W, Calls Tryd.prog 16 #[.agg #[.int .i64 c, .int .i64 d]] W fun e w' => e = .returned (.bool true) ∧ Gr W w')) (HV3 : Hid (∀ W, Calls Tryd.prog 16 #[.agg #[.int .i64 p, .int .i64 q]] W fun e w' => e = .returned (.bool true) ∧ Gr W w'))
    (HC1 : Hid (∀ W, Calls Tryd.prog 18 #[.agg #[.int .i64 a, .int .i64 b], .agg #[.int .i64 c, .int .i64 d]] W fun e w' => e = .returned (.tuple #[.int .i64 k1, .int .i64 0]) ∧ Gr W w')) (HC2 : Hid (∀ W, Calls Tryd.prog 18 #[.agg #[.int .i64 c, .int .i64 d], .agg #[.int .i64 a, .int .i64 b]] W fun e w' => e = .returned (.tuple #[.int .i64 (-k1), .int .i64 0]) ∧ Gr W w'))
    (HC3 : Hid (∀ W, Calls Tryd.prog 18 #[.agg #[.int .i64 c, .int .i64 d], .agg #[.int .i64 p, .int .i64 q]] W fun e w' => e = .returned (.tuple #[.int .i64 k3, .int .i64 0]) ∧ Gr W w')) (HC4 : Hid (∀ W, Calls Tryd.prog 18 #[.agg #[.int .i64 a, .int .i64 b], .agg #[.int .i64 p, .int .i64 q]] W fun e w' => e = .returned (.tuple #[.int .i64 k4, .int .i64 0]) ∧ Gr W w'))
    (HA1 : Hid (∀ W, Calls Tryd.prog 12 #[.agg #[.int .i64 a, .int .i64 b], .agg #[.int .i64 p, .int .i64 q]] W fun e w' => e = .returned (.tuple #[.agg #[.int .i64 xn, .int .i64 xd], .int .i64 0]) ∧ Below W.heap.size W w')) (HA2 : Hid (∀ W, Calls Tryd.prog 12 #[.agg #[.int .i64 c, .int .i64 d], .agg #[.int .i64 p, .int .i64 q]] W fun e w' => e = .returned (.tuple #[.agg #[.int .i64 0, .int .i64 0], .int .i64 9]) ∧ Below W.heap.size W w')) : Calls Tryd.prog 5 #[.agg #[.int .i64 a, .int .i64 b], .agg #[.int .i64 c, .int .i64 d], .agg #[.int .i64 p, .int .i64 q]] w (Yes w) := by
  obtain ⟨hk0, hk1⟩ := hk
  by_cases e0 : k1 = 0
  · obtain ⟨rfl, rfl⟩ := hz.1 e0
    subst e0
    clear hz hk0 hk1
    by_cases e3 : k3 ≤ 0
    · have e4 := (ht (by decide) e3).1
      clear ht
      go_enter Tryd.func5, Tryd.ntmps5
      go_wp2_with fail
      have T0 := Lib.hid (Below.refl w.heap.size w)
      have G1 : Gr w (((w.alloc (.cells #[.int .i64 a, .int .i64 b] 23)).alloc (.cells #[.int .i64 a, .int .i64 b] 23)).alloc (.cells #[.int .i64 p, .int .i64 q] 23)) := (((Gr.one _ _).alloc _).alloc _)
      have T1 := Lib.hid (T0.out.trans (G1.below.mono T0.out.size))
      have B0_1 : Hid (Blk (((w.alloc (.cells #[.int .i64 a, .int .i64 b] 23)).alloc (.cells #[.int .i64 a, .int .i64 b] 23)).alloc (.cells #[.int .i64 p, .int .i64 q] 23)) (w.heap.size) (.int .i64 a) (.int .i64 b)) := Lib.hid (Blk.at02 _ _ _ _ _ _)
      have B1_1 : Hid (Blk (((w.alloc (.cells #[.int .i64 a, .int .i64 b] 23)).alloc (.cells #[.int .i64 a, .int .i64 b] 23)).alloc (.cells #[.int .i64 p, .int .i64 q] 23)) (w.heap.size + 1) (.int .i64 a) (.int .i64 b)) := Lib.hid (Blk.at11 _ _ _ _ _ _)
      have B2_1 : Hid (Blk (((w.alloc (.cells #[.int .i64 a, .int .i64 b] 23)).alloc (.cells #[.int .i64 a, .int .i64 b] 23)).alloc (.cells #[.int .i64 p, .int .i64 q] 23)) (w.heap.size + 1 + 1) (.int .i64 p) (.int .i64 q)) := Lib.hid (Blk.at20 _ _ _ _ _ _)
      generalize hw1 : (((w.alloc (.cells #[.int .i64 a, .int .i64 b] 23)).alloc (.cells #[.int .i64 a, .int .i64 b] 23)).alloc (.cells #[.int .i64 p, .int .i64 q] 23)) = w1 at *
      clear hw1 G1
      obtain ⟨bs0, bx0, by0, bf0, be0⟩ := B0_1.out
      obtain ⟨bs1, bx1, by1, bf1, be1⟩ := B1_1.out
      obtain ⟨bs2, bx2, by2, bf2, be2⟩ := B2_1.out
      refine (head_any _ (HL.out.keep T1.out)).mono ?_
      rintro e2 w2 ⟨rfl, hg⟩
      have T2 := Lib.hid (T1.out.trans (hg.mono T1.out.size))
      have B0_2 := Lib.hid (B0_1.out.below hg)
      have B1_2 := Lib.hid (B1_1.out.below hg)
      have B2_2 := Lib.hid (B2_1.out.below hg)
      clear hg
      clear bs0 bx0 by0 bf0 be0 bs1 bx1 by1 bf1 be1 bs2 bx2 by2 bf2 be2
      obtain ⟨bs0, bx0, by0, bf0, be0⟩ := B0_2.out
      obtain ⟨bs1, bx1, by1, bf1, be1⟩ := B1_2.out
      obtain ⟨bs2, bx2, by2, bf2, be2⟩ := B2_2.out
      go_wp2_with fail
      refine (HV1.out _).mono ?_
      rintro e3 w3 ⟨rfl, hg⟩
      replace hg := hg.below
      have T3 := Lib.hid (T2.out.trans (hg.mono T2.out.size))
      have B0_3 := Lib.hid (B0_2.out.below hg)
      have B1_3 := Lib.hid (B1_2.out.below hg)
      have B2_3 := Lib.hid (B2_2.out.below hg)
      clear hg
      clear bs0 bx0 by0 bf0 be0 bs1 bx1 by1 bf1 be1 bs2 bx2 by2 bf2 be2
      obtain ⟨bs0, bx0, by0, bf0, be0⟩ := B0_3.out
      obtain ⟨bs1, bx1, by1, bf1, be1⟩ := B1_3.out
      obtain ⟨bs2, bx2, by2, bf2, be2⟩ := B2_3.out
      go_wp2_with fail
      refine (HV2.out _).mono ?_
      rintro e4 w4 ⟨rfl, hg⟩
      replace hg := hg.below
      have T4 := Lib.hid (T3.out.trans (hg.mono T3.out.size))
      have B0_4 := Lib.hid (B0_3.out.below hg)
      have B1_4 := Lib.hid (B1_3.out.below hg)
      have B2_4 := Lib.hid (B2_3.out.below hg)
      clear hg
      clear bs0 bx0 by0 bf0 be0 bs1 bx1 by1 bf1 be1 bs2 bx2 by2 bf2 be2
      obtain ⟨bs0, bx0, by0, bf0, be0⟩ := B0_4.out
      obtain ⟨bs1, bx1, by1, bf1, be1⟩ := B1_4.out
      obtain ⟨bs2, bx2, by2, bf2, be2⟩ := B2_4.out
      go_wp2_with fail
      refine (HV3.out _).mono ?_
      rintro e5 w5 ⟨rfl, hg⟩
      replace hg := hg.below
      have T5 := Lib.hid (T4.out.trans (hg.mono T4.out.size))
      have B0_5 := Lib.hid (B0_4.out.below hg)
      have B1_5 := Lib.hid (B1_4.out.below hg)
      have B2_5 := Lib.hid (B2_4.out.below hg)
      clear hg
      clear bs0 bx0 by0 bf0 be0 bs1 bx1 by1 bf1 be1 bs2 bx2 by2 bf2 be2
      obtain ⟨bs0, bx0, by0, bf0, be0⟩ := B0_5.out
      obtain ⟨bs1, bx1, by1, bf1, be1⟩ := B1_5.out
      obtain ⟨bs2, bx2, by2, bf2, be2⟩ := B2_5.out
      go_wp2_with fail
      refine (HC1.out _).mono ?_
      rintro e6 w6 ⟨rfl, hg⟩
      replace hg := hg.below
      have T6 := Lib.hid (T5.out.trans (hg.mono T5.out.size))
      have B0_6 := Lib.hid (B0_5.out.below hg)
      have B1_6 := Lib.hid (B1_5.out.below hg)
      have B2_6 := Lib.hid (B2_5.out.below hg)
      clear hg
      clear bs0 bx0 by0 bf0 be0 bs1 bx1 by1 bf1 be1 bs2 bx2 by2 bf2 be2
      obtain ⟨bs0, bx0, by0, bf0, be0⟩ := B0_6.out
      obtain ⟨bs1, bx1, by1, bf1, be1⟩ := B1_6.out
      obtain ⟨bs2, bx2, by2, bf2, be2⟩ := B2_6.out
      go_wp2_with fail
      refine (HC2.out _).mono ?_
      rintro e7 w7 ⟨rfl, hg⟩
      replace hg := hg.below
      have T7 := Lib.hid (T6.out.trans (hg.mono T6.out.size))
      have B0_7 := Lib.hid (B0_6.out.below hg)
      have B1_7 := Lib.hid (B1_6.out.below hg)
      have B2_7 := Lib.hid (B2_6.out.below hg)
      clear hg
      clear bs0 bx0 by0 bf0 be0 bs1 bx1 by1 bf1 be1 bs2 bx2 by2 bf2 be2
      obtain ⟨bs0, bx0, by0, bf0, be0⟩ := B0_7.out
      obtain ⟨bs1, bx1, by1, bf1, be1⟩ := B1_7.out
      obtain ⟨bs2, bx2, by2, bf2, be2⟩ := B2_7.out
      go_wp2_with fail
      refine (HC3.out _).mono ?_
      rintro e8 w8 ⟨rfl, hg⟩
      replace hg := hg.below
      have T8 := Lib.hid (T7.out.trans (hg.mono T7.out.size))
      have B0_8 := Lib.hid (B0_7.out.below hg)
      have B1_8 := Lib.hid (B1_7.out.below hg)
      have B2_8 := Lib.hid (B2_7.out.below hg)
      clear hg
      clear bs0 bx0 by0 bf0 be0 bs1 bx1 by1 bf1 be1 bs2 bx2 by2 bf2 be2
      obtain ⟨bs0, bx0, by0, bf0, be0⟩ := B0_8.out
      obtain ⟨bs1, bx1, by1, bf1, be1⟩ := B1_8.out
      obtain ⟨bs2, bx2, by2, bf2, be2⟩ := B2_8.out
      go_wp2_with fail
      refine (HC4.out _).mono ?_
      rintro e9 w9 ⟨rfl, hg⟩
      replace hg := hg.below
      have T9 := Lib.hid (T8.out.trans (hg.mono T8.out.size))
      have B0_9 := Lib.hid (B0_8.out.below hg)
      have B1_9 := Lib.hid (B1_8.out.below hg)
      have B2_9 := Lib.hid (B2_8.out.below hg)
      clear hg
      clear bs0 bx0 by0 bf0 be0 bs1 bx1 by1 bf1 be1 bs2 bx2 by2 bf2 be2
      obtain ⟨bs0, bx0, by0, bf0, be0⟩ := B0_9.out
      obtain ⟨bs1, bx1, by1, bf1, be1⟩ := B1_9.out
      obtain ⟨bs2, bx2, by2, bf2, be2⟩ := B2_9.out
      go_wp2_with fail
      refine (HA1.out _).mono ?_
      rintro e10 w10 ⟨rfl, hg⟩
      have T10 := Lib.hid (T9.out.trans (hg.mono T9.out.size))
      have B0_10 := Lib.hid (B0_9.out.below hg)
      have B1_10 := Lib.hid (B1_9.out.below hg)
      have B2_10 := Lib.hid (B2_9.out.below hg)
      clear hg
      clear bs0 bx0 by0 bf0 be0 bs1 bx1 by1 bf1 be1 bs2 bx2 by2 bf2 be2
      obtain ⟨bs0, bx0, by0, bf0, be0⟩ := B0_10.out
      obtain ⟨bs1, bx1, by1, bf1, be1⟩ := B1_10.out
      obtain ⟨bs2, bx2, by2, bf2, be2⟩ := B2_10.out
      go_wp2_with fail
      have G11 : Gr w10 (w10.alloc (.cells #[.int .i64 xn, .int .i64 xd] 23)) := (Gr.one _ _)
      have T11 := Lib.hid (T10.out.trans (G11.below.mono T10.out.size))
      have B0_11 := Lib.hid (B0_10.out.keep G11)
      have B1_11 := Lib.hid (B1_10.out.keep G11)
      have B2_11 := Lib.hid (B2_10.out.keep G11)
      have B3_11 : Hid (Blk (w10.alloc (.cells #[.int .i64 xn, .int .i64 xd] 23)) (w10.heap.size) (.int .i64 xn) (.int .i64 xd)) := Lib.hid (Blk.at00 _ _ _ _)
      generalize hw11 : (w10.alloc (.cells #[.int .i64 xn, .int .i64 xd] 23)) = w11 at *
      clear hw11 G11
      clear bs0 bx0 by0 bf0 be0 bs1 bx1 by1 bf1 be1 bs2 bx2 by2 bf2 be2
      obtain ⟨bs0, bx0, by0, bf0, be0⟩ := B0_11.out
      obtain ⟨bs1, bx1, by1, bf1, be1⟩ := B1_11.out
      obtain ⟨bs2, bx2, by2, bf2, be2⟩ := B2_11.out
      obtain ⟨bs3, bx3, by3, bf3, be3⟩ := B3_11.out
      refine (HA2.out _).mono ?_
      rintro e12 w12 ⟨rfl, hg⟩
      have T12 := Lib.hid (T11.out.trans (hg.mono T11.out.size))
      have B0_12 := Lib.hid (B0_11.out.below hg)
      have B1_12 := Lib.hid (B1_11.out.below hg)
      have B2_12 := Lib.hid (B2_11.out.below hg)
      have B3_12 := Lib.hid (B3_11.out.below hg)
      clear hg
      clear bs0 bx0 by0 bf0 be0 bs1 bx1 by1 bf1 be1 bs2 bx2 by2 bf2 be2 bs3 bx3 by3 bf3 be3
      obtain ⟨bs0, bx0, by0, bf0, be0⟩ := B0_12.out
      obtain ⟨bs1, bx1, by1, bf1, be1⟩ := B1_12.out
      obtain ⟨bs2, bx2, by2, bf2, be2⟩ := B2_12.out
      obtain ⟨bs3, bx3, by3, bf3, be3⟩ := B3_12.out
      go_wp2_with fail
      have G13 : Gr w12 (w12.alloc (.cells #[.int .i64 0, .int .i64 0] 23)) := (Gr.one _ _)
      have T13 := Lib.hid (T12.out.trans (G13.below.mono T12.out.size))
      have B0_13 := Lib.hid (B0_12.out.keep G13)
      have B1_13 := Lib.hid (B1_12.out.keep G13)
      have B2_13 := Lib.hid (B2_12.out.keep G13)
      have B3_13 := Lib.hid (B3_12.out.keep G13)
      have B4_13 : Hid (Blk (w12.alloc (.cells #[.int .i64 0, .int .i64 0] 23)) (w12.heap.size) (.int .i64 0) (.int .i64 0)) := Lib.hid (Blk.at00 _ _ _ _)
      generalize hw13 : (w12.alloc (.cells #[.int .i64 0, .int .i64 0] 23)) = w13 at *
      clear hw13 G13
      clear bs0 bx0 by0 bf0 be0 bs1 bx1 by1 bf1 be1 bs2 bx2 by2 bf2 be2 bs3 bx3 by3 bf3 be3
      obtain ⟨bs0, bx0, by0, bf0, be0⟩ := B0_13.out
      obtain ⟨bs1, bx1, by1, bf1, be1⟩ := B1_13.out
      obtain ⟨bs2, bx2, by2, bf2, be2⟩ := B2_13.out
      obtain ⟨bs3, bx3, by3, bf3, be3⟩ := B3_13.out
      obtain ⟨bs4, bx4, by4, bf4, be4⟩ := B4_13.out
      go_wp2_with fail
      go_ret
      exact ⟨rfl, T13.out⟩
    · clear ht
      go_enter Tryd.func5, Tryd.ntmps5
      go_wp2_with fail
      have T0 := Lib.hid (Below.refl w.heap.size w)
      have G1 : Gr w (((w.alloc (.cells #[.int .i64 a, .int .i64 b] 23)).alloc (.cells #[.int .i64 a, .int .i64 b] 23)).alloc (.cells #[.int .i64 p, .int .i64 q] 23)) := (((Gr.one _ _).alloc _).alloc _)
      have T1 := Lib.hid (T0.out.trans (G1.below.mono T0.out.size))
      have B0_1 : Hid (Blk (((w.alloc (.cells #[.int .i64 a, .int .i64 b] 23)).alloc (.cells #[.int .i64 a, .int .i64 b] 23)).alloc (.cells #[.int .i64 p, .int .i64 q] 23)) (w.heap.size) (.int .i64 a) (.int .i64 b)) := Lib.hid (Blk.at02 _ _ _ _ _ _)
      have B1_1 : Hid (Blk (((w.alloc (.cells #[.int .i64 a, .int .i64 b] 23)).alloc (.cells #[.int .i64 a, .int .i64 b] 23)).alloc (.cells #[.int .i64 p, .int .i64 q] 23)) (w.heap.size + 1) (.int .i64 a) (.int .i64 b)) := Lib.hid (Blk.at11 _ _ _ _ _ _)
      have B2_1 : Hid (Blk (((w.alloc (.cells #[.int .i64 a, .int .i64 b] 23)).alloc (.cells #[.int .i64 a, .int .i64 b] 23)).alloc (.cells #[.int .i64 p, .int .i64 q] 23)) (w.heap.size + 1 + 1) (.int .i64 p) (.int .i64 q)) := Lib.hid (Blk.at20 _ _ _ _ _ _)
      generalize hw1 : (((w.alloc (.cells #[.int .i64 a, .int .i64 b] 23)).alloc (.cells #[.int .i64 a, .int .i64 b] 23)).alloc (.cells #[.int .i64 p, .int .i64 q] 23)) = w1 at *
      clear hw1 G1
      obtain ⟨bs0, bx0, by0, bf0, be0⟩ := B0_1.out
      obtain ⟨bs1, bx1, by1, bf1, be1⟩ := B1_1.out
      obtain ⟨bs2, bx2, by2, bf2, be2⟩ := B2_1.out
      refine (head_any _ (HL.out.keep T1.out)).mono ?_
      rintro e2 w2 ⟨rfl, hg⟩
      have T2 := Lib.hid (T1.out.trans (hg.mono T1.out.size))
      have B0_2 := Lib.hid (B0_1.out.below hg)
      have B1_2 := Lib.hid (B1_1.out.below hg)
      have B2_2 := Lib.hid (B2_1.out.below hg)
      clear hg
      clear bs0 bx0 by0 bf0 be0 bs1 bx1 by1 bf1 be1 bs2 bx2 by2 bf2 be2
      obtain ⟨bs0, bx0, by0, bf0, be0⟩ := B0_2.out
      obtain ⟨bs1, bx1, by1, bf1, be1⟩ := B1_2.out
      obtain ⟨bs2, bx2, by2, bf2, be2⟩ := B2_2.out
      go_wp2_with fail
      refine (HV1.out _).mono ?_
      rintro e3 w3 ⟨rfl, hg⟩
      replace hg := hg.below
      have T3 := Lib.hid (T2.out.trans (hg.mono T2.out.size))
      have B0_3 := Lib.hid (B0_2.out.below hg)
      have B1_3 := Lib.hid (B1_2.out.below hg)
      have B2_3 := Lib.hid (B2_2.out.below hg)
      clear hg
      clear bs0 bx0 by0 bf0 be0 bs1 bx1 by1 bf1 be1 bs2 bx2 by2 bf2 be2
      obtain ⟨bs0, bx0, by0, bf0, be0⟩ := B0_3.out
      obtain ⟨bs1, bx1, by1, bf1, be1⟩ := B1_3.out
      obtain ⟨bs2, bx2, by2, bf2, be2⟩ := B2_3.out
      go_wp2_with fail
      refine (HV2.out _).mono ?_
      rintro e4 w4 ⟨rfl, hg⟩
      replace hg := hg.below
      have T4 := Lib.hid (T3.out.trans (hg.mono T3.out.size))
      have B0_4 := Lib.hid (B0_3.out.below hg)
      have B1_4 := Lib.hid (B1_3.out.below hg)
      have B2_4 := Lib.hid (B2_3.out.below hg)
      clear hg
      clear bs0 bx0 by0 bf0 be0 bs1 bx1 by1 bf1 be1 bs2 bx2 by2 bf2 be2
      obtain ⟨bs0, bx0, by0, bf0, be0⟩ := B0_4.out
      obtain ⟨bs1, bx1, by1, bf1, be1⟩ := B1_4.out
      obtain ⟨bs2, bx2, by2, bf2, be2⟩ := B2_4.out
      go_wp2_with fail
      refine (HV3.out _).mono ?_
      rintro e5 w5 ⟨rfl, hg⟩
      replace hg := hg.below
      have T5 := Lib.hid (T4.out.trans (hg.mono T4.out.size))
      have B0_5 := Lib.hid (B0_4.out.below hg)
      have B1_5 := Lib.hid (B1_4.out.below hg)
      have B2_5 := Lib.hid (B2_4.out.below hg)
      clear hg
      clear bs0 bx0 by0 bf0 be0 bs1 bx1 by1 bf1 be1 bs2 bx2 by2 bf2 be2
      obtain ⟨bs0, bx0, by0, bf0, be0⟩ := B0_5.out
      obtain ⟨bs1, bx1, by1, bf1, be1⟩ := B1_5.out
      obtain ⟨bs2, bx2, by2, bf2, be2⟩ := B2_5.out
      go_wp2_with fail
      refine (HC1.out _).mono ?_
      rintro e6 w6 ⟨rfl, hg⟩
      replace hg := hg.below
      have T6 := Lib.hid (T5.out.trans (hg.mono T5.out.size))
      have B0_6 := Lib.hid (B0_5.out.below hg)
      have B1_6 := Lib.hid (B1_5.out.below hg)
      have B2_6 := Lib.hid (B2_5.out.below hg)
      clear hg
      clear bs0 bx0 by0 bf0 be0 bs1 bx1 by1 bf1 be1 bs2 bx2 by2 bf2 be2
      obtain ⟨bs0, bx0, by0, bf0, be0⟩ := B0_6.out
      obtain ⟨bs1, bx1, by1, bf1, be1⟩ := B1_6.out
      obtain ⟨bs2, bx2, by2, bf2, be2⟩ := B2_6.out
      go_wp2_with fail
      refine (HC2.out _).mono ?_
      rintro e7 w7 ⟨rfl, hg⟩
      replace hg := hg.below
      have T7 := Lib.hid (T6.out.trans (hg.mono T6.out.size))
      have B0_7 := Lib.hid (B0_6.out.below hg)
      have B1_7 := Lib.hid (B1_6.out.below hg)
      have B2_7 := Lib.hid (B2_6.out.below hg)
      clear hg
      clear bs0 bx0 by0 bf0 be0 bs1 bx1 by1 bf1 be1 bs2 bx2 by2 bf2 be2
      obtain ⟨bs0, bx0, by0, bf0, be0⟩ := B0_7.out
      obtain ⟨bs1, bx1, by1, bf1, be1⟩ := B1_7.out
      obtain ⟨bs2, bx2, by2, bf2, be2⟩ := B2_7.out
      go_wp2_with fail
      refine (HC3.out _).mono ?_
      rintro e8 w8 ⟨rfl, hg⟩
      replace hg := hg.below
      have T8 := Lib.hid (T7.out.trans (hg.mono T7.out.size))
      have B0_8 := Lib.hid (B0_7.out.below hg)
      have B1_8 := Lib.hid (B1_7.out.below hg)
      have B2_8 := Lib.hid (B2_7.out.below hg)
      clear hg
      clear bs0 bx0 by0 bf0 be0 bs1 bx1 by1 bf1 be1 bs2 bx2 by2 bf2 be2
      obtain ⟨bs0, bx0, by0, bf0, be0⟩ := B0_8.out
      obtain ⟨bs1, bx1, by1, bf1, be1⟩ := B1_8.out
      obtain ⟨bs2, bx2, by2, bf2, be2⟩ := B2_8.out
      go_wp2_with fail
      refine (HC4.out _).mono ?_
      rintro e9 w9 ⟨rfl, hg⟩
      replace hg := hg.below
      have T9 := Lib.hid (T8.out.trans (hg.mono T8.out.size))
      have B0_9 := Lib.hid (B0_8.out.below hg)
      have B1_9 := Lib.hid (B1_8.out.below hg)
      have B2_9 := Lib.hid (B2_8.out.below hg)
      clear hg
      clear bs0 bx0 by0 bf0 be0 bs1 bx1 by1 bf1 be1 bs2 bx2 by2 bf2 be2
      obtain ⟨bs0, bx0, by0, bf0, be0⟩ := B0_9.out
      obtain ⟨bs1, bx1, by1, bf1, be1⟩ := B1_9.out
      obtain ⟨bs2, bx2, by2, bf2, be2⟩ := B2_9.out
      go_wp2_with fail
      refine (HA1.out _).mono ?_
      rintro e10 w10 ⟨rfl, hg⟩
      have T10 := Lib.hid (T9.out.trans (hg.mono T9.out.size))
      have B0_10 := Lib.hid (B0_9.out.below hg)
      have B1_10 := Lib.hid (B1_9.out.below hg)
      have B2_10 := Lib.hid (B2_9.out.below hg)
      clear hg
      clear bs0 bx0 by0 bf0 be0 bs1 bx1 by1 bf1 be1 bs2 bx2 by2 bf2 be2
      obtain ⟨bs0, bx0, by0, bf0, be0⟩ := B0_10.out
      obtain ⟨bs1, bx1, by1, bf1, be1⟩ := B1_10.out
      obtain ⟨bs2, bx2, by2, bf2, be2⟩ := B2_10.out
      go_wp2_with fail
      have G11 : Gr w10 (w10.alloc (.cells #[.int .i64 xn, .int .i64 xd] 23)) := (Gr.one _ _)
      have T11 := Lib.hid (T10.out.trans (G11.below.mono T10.out.size))
      have B0_11 := Lib.hid (B0_10.out.keep G11)
      have B1_11 := Lib.hid (B1_10.out.keep G11)
      have B2_11 := Lib.hid (B2_10.out.keep G11)
      have B3_11 : Hid (Blk (w10.alloc (.cells #[.int .i64 xn, .int .i64 xd] 23)) (w10.heap.size) (.int .i64 xn) (.int .i64 xd)) := Lib.hid (Blk.at00 _ _ _ _)
      generalize hw11 : (w10.alloc (.cells #[.int .i64 xn, .int .i64 xd] 23)) = w11 at *
      clear hw11 G11
      clear bs0 bx0 by0 bf0 be0 bs1 bx1 by1 bf1 be1 bs2 bx2 by2 bf2 be2
      obtain ⟨bs0, bx0, by0, bf0, be0⟩ := B0_11.out
      obtain ⟨bs1, bx1, by1, bf1, be1⟩ := B1_11.out
      obtain ⟨bs2, bx2, by2, bf2, be2⟩ := B2_11.out
      obtain ⟨bs3, bx3, by3, bf3, be3⟩ := B3_11.out
      refine (HA2.out _).mono ?_
      rintro e12 w12 ⟨rfl, hg⟩
      have T12 := Lib.hid (T11.out.trans (hg.mono T11.out.size))
      have B0_12 := Lib.hid (B0_11.out.below hg)
      have B1_12 := Lib.hid (B1_11.out.below hg)
      have B2_12 := Lib.hid (B2_11.out.below hg)
      have B3_12 := Lib.hid (B3_11.out.below hg)
      clear hg
      clear bs0 bx0 by0 bf0 be0 bs1 bx1 by1 bf1 be1 bs2 bx2 by2 bf2 be2 bs3 bx3 by3 bf3 be3
      obtain ⟨bs0, bx0, by0, bf0, be0⟩ := B0_12.out
      obtain ⟨bs1, bx1, by1, bf1, be1⟩ := B1_12.out
      obtain ⟨bs2, bx2, by2, bf2, be2⟩ := B2_12.out
      obtain ⟨bs3, bx3, by3, bf3, be3⟩ := B3_12.out
      go_wp2_with fail
      have G13 : Gr w12 (w12.alloc (.cells #[.int .i64 0, .int .i64 0] 23)) := (Gr.one _ _)
      have T13 := Lib.hid (T12.out.trans (G13.below.mono T12.out.size))
      have B0_13 := Lib.hid (B0_12.out.keep G13)
      have B1_13 := Lib.hid (B1_12.out.keep G13)
      have B2_13 := Lib.hid (B2_12.out.keep G13)
      have B3_13 := Lib.hid (B3_12.out.keep G13)
      have B4_13 : Hid (Blk (w12.alloc (.cells #[.int .i64 0, .int .i64 0] 23)) (w12.heap.size) (.int .i64 0) (.int .i64 0)) := Lib.hid (Blk.at00 _ _ _ _)
      generalize hw13 : (w12.alloc (.cells #[.int .i64 0, .int .i64 0] 23)) = w13 at *
      clear hw13 G13
      clear bs0 bx0 by0 bf0 be0 bs1 bx1 by1 bf1 be1 bs2 bx2 by2 bf2 be2 bs3 bx3 by3 bf3 be3
      obtain ⟨bs0, bx0, by0, bf0, be0⟩ := B0_13.out
      obtain ⟨bs1, bx1, by1, bf1, be1⟩ := B1_13.out
      obtain ⟨bs2, bx2, by2, bf2, be2⟩ := B2_13.out
      obtain ⟨bs3, bx3, by3, bf3, be3⟩ := B3_13.out
      obtain ⟨bs4, bx4, by4, bf4, be4⟩ := B4_13.out
      go_wp2_with fail
      go_ret
      exact ⟨rfl, T13.out⟩
  · have hne := ne_bools (fun x => e0 (hz.2 x))
    clear hz
    by_cases e1 : k1 = 1
    · subst e1
      clear ht e0
      rcases hne with b1 | ⟨b1, b2⟩
      all_goals
        go_enter Tryd.func5, Tryd.ntmps5
        go_wp2_with fail
        have T0 := Lib.hid (Below.refl w.heap.size w)
        have G1 : Gr w (((w.alloc (.cells #[.int .i64 a, .int .i64 b] 23)).alloc (.cells #[.int .i64 c, .int .i64 d] 23)).alloc (.cells #[.int .i64 p, .int .i64 q] 23)) := (((Gr.one _ _).alloc _).alloc _)
        have T1 := Lib.hid (T0.out.trans (G1.below.mono T0.out.size))
        have B0_1 : Hid (Blk (((w.alloc (.cells #[.int .i64 a, .int .i64 b] 23)).alloc (.cells #[.int .i64 c, .int .i64 d] 23)).alloc (.cells #[.int .i64 p, .int .i64 q] 23)) (w.heap.size) (.int .i64 a) (.int .i64 b)) := Lib.hid (Blk.at02 _ _ _ _ _ _)
        have B1_1 : Hid (Blk (((w.alloc (.cells #[.int .i64 a, .int .i64 b] 23)).alloc (.cells #[.int .i64 c, .int .i64 d] 23)).alloc (.cells #[.int .i64 p, .int .i64 q] 23)) (w.heap.size + 1) (.int .i64 c) (.int .i64 d)) := Lib.hid (Blk.at11 _ _ _ _ _ _)
        have B2_1 : Hid (Blk (((w.alloc (.cells #[.int .i64 a, .int .i64 b] 23)).alloc (.cells #[.int .i64 c, .int .i64 d] 23)).alloc (.cells #[.int .i64 p, .int .i64 q] 23)) (w.heap.size + 1 + 1) (.int .i64 p) (.int .i64 q)) := Lib.hid (Blk.at20 _ _ _ _ _ _)
        generalize hw1 : (((w.alloc (.cells #[.int .i64 a, .int .i64 b] 23)).alloc (.cells #[.int .i64 c, .int .i64 d] 23)).alloc (.cells #[.int .i64 p, .int .i64 q] 23)) = w1 at *
        clear hw1 G1
        obtain ⟨bs0, bx0, by0, bf0, be0⟩ := B0_1.out
        obtain ⟨bs1, bx1, by1, bf1, be1⟩ := B1_1.out
        obtain ⟨bs2, bx2, by2, bf2, be2⟩ := B2_1.out
        refine (head_any _ (HL.out.keep T1.out)).mono ?_
        rintro e2 w2 ⟨rfl, hg⟩
        have T2 := Lib.hid (T1.out.trans (hg.mono T1.out.size))
        have B0_2 := Lib.hid (B0_1.out.below hg)
        have B1_2 := Lib.hid (B1_1.out.below hg)
        have B2_2 := Lib.hid (B2_1.out.below hg)
        clear hg
        clear bs0 bx0 by0 bf0 be0 bs1 bx1 by1 bf1 be1 bs2 bx2 by2 bf2 be2
        obtain ⟨bs0, bx0, by0, bf0, be0⟩ := B0_2.out
        obtain ⟨bs1, bx1, by1, bf1, be1⟩ := B1_2.out
        obtain ⟨bs2, bx2, by2, bf2, be2⟩ := B2_2.out
        go_wp2_with fail
        refine (HV1.out _).mono ?_
        rintro e3 w3 ⟨rfl, hg⟩
        replace hg := hg.below
        have T3 := Lib.hid (T2.out.trans (hg.mono T2.out.size))
        have B0_3 := Lib.hid (B0_2.out.below hg)
        have B1_3 := Lib.hid (B1_2.out.below hg)
        have B2_3 := Lib.hid (B2_2.out.below hg)
        clear hg
        clear bs0 bx0 by0 bf0 be0 bs1 bx1 by1 bf1 be1 bs2 bx2 by2 bf2 be2
        obtain ⟨bs0, bx0, by0, bf0, be0⟩ := B0_3.out
        obtain ⟨bs1, bx1, by1, bf1, be1⟩ := B1_3.out
        obtain ⟨bs2, bx2, by2, bf2, be2⟩ := B2_3.out
        go_wp2_with fail
        refine (HV2.out _).mono ?_
        rintro e4 w4 ⟨rfl, hg⟩
        replace hg := hg.below
        have T4 := Lib.hid (T3.out.trans (hg.mono T3.out.size))
        have B0_4 := Lib.hid (B0_3.out.below hg)
        have B1_4 := Lib.hid (B1_3.out.below hg)
        have B2_4 := Lib.hid (B2_3.out.below hg)
        clear hg
        clear bs0 bx0 by0 bf0 be0 bs1 bx1 by1 bf1 be1 bs2 bx2 by2 bf2 be2
        obtain ⟨bs0, bx0, by0, bf0, be0⟩ := B0_4.out
        obtain ⟨bs1, bx1, by1, bf1, be1⟩ := B1_4.out
        obtain ⟨bs2, bx2, by2, bf2, be2⟩ := B2_4.out
        go_wp2_with fail
        refine (HV3.out _).mono ?_
        rintro e5 w5 ⟨rfl, hg⟩
        replace hg := hg.below
        have T5 := Lib.hid (T4.out.trans (hg.mono T4.out.size))
        have B0_5 := Lib.hid (B0_4.out.below hg)
        have B1_5 := Lib.hid (B1_4.out.below hg)
        have B2_5 := Lib.hid (B2_4.out.below hg)
        clear hg
        clear bs0 bx0 by0 bf0 be0 bs1 bx1 by1 bf1 be1 bs2 bx2 by2 bf2 be2
        obtain ⟨bs0, bx0, by0, bf0, be0⟩ := B0_5.out
        obtain ⟨bs1, bx1, by1, bf1, be1⟩ := B1_5.out
        obtain ⟨bs2, bx2, by2, bf2, be2⟩ := B2_5.out
        go_wp2_with fail
        refine (HC1.out _).mono ?_
        rintro e6 w6 ⟨rfl, hg⟩
        replace hg := hg.below
        have T6 := Lib.hid (T5.out.trans (hg.mono T5.out.size))
        have B0_6 := Lib.hid (B0_5.out.below hg)
        have B1_6 := Lib.hid (B1_5.out.below hg)
        have B2_6 := Lib.hid (B2_5.out.below hg)
        clear hg
        clear bs0 bx0 by0 bf0 be0 bs1 bx1 by1 bf1 be1 bs2 bx2 by2 bf2 be2
        obtain ⟨bs0, bx0, by0, bf0, be0⟩ := B0_6.out
        obtain ⟨bs1, bx1, by1, bf1, be1⟩ := B1_6.out
        obtain ⟨bs2, bx2, by2, bf2, be2⟩ := B2_6.out
        go_wp2_with fail
        refine (HC2.out _).mono ?_
        rintro e7 w7 ⟨rfl, hg⟩
        replace hg := hg.below
        have T7 := Lib.hid (T6.out.trans (hg.mono T6.out.size))
        have B0_7 := Lib.hid (B0_6.out.below hg)
        have B1_7 := Lib.hid (B1_6.out.below hg)
        have B2_7 := Lib.hid (B2_6.out.below hg)
        clear hg
        clear bs0 bx0 by0 bf0 be0 bs1 bx1 by1 bf1 be1 bs2 bx2 by2 bf2 be2
        obtain ⟨bs0, bx0, by0, bf0, be0⟩ := B0_7.out
        obtain ⟨bs1, bx1, by1, bf1, be1⟩ := B1_7.out
        obtain ⟨bs2, bx2, by2, bf2, be2⟩ := B2_7.out
        go_wp2_with fail
        refine (HC3.out _).mono ?_
        rintro e8 w8 ⟨rfl, hg⟩
        replace hg := hg.below
        have T8 := Lib.hid (T7.out.trans (hg.mono T7.out.size))
        have B0_8 := Lib.hid (B0_7.out.below hg)
        have B1_8 := Lib.hid (B1_7.out.below hg)
        have B2_8 := Lib.hid (B2_7.out.below hg)
        clear hg
        clear bs0 bx0 by0 bf0 be0 bs1 bx1 by1 bf1 be1 bs2 bx2 by2 bf2 be2
        obtain ⟨bs0, bx0, by0, bf0, be0⟩ := B0_8.out
        obtain ⟨bs1, bx1, by1, bf1, be1⟩ := B1_8.out
        obtain ⟨bs2, bx2, by2, bf2, be2⟩ := B2_8.out
        go_wp2_with fail
        refine (HC4.out _).mono ?_
        rintro e9 w9 ⟨rfl, hg⟩
        replace hg := hg.below
        have T9 := Lib.hid (T8.out.trans (hg.mono T8.out.size))
        have B0_9 := Lib.hid (B0_8.out.below hg)
        have B1_9 := Lib.hid (B1_8.out.below hg)
        have B2_9 := Lib.hid (B2_8.out.below hg)
        clear hg
        clear bs0 bx0 by0 bf0 be0 bs1 bx1 by1 bf1 be1 bs2 bx2 by2 bf2 be2
        obtain ⟨bs0, bx0, by0, bf0, be0⟩ := B0_9.out
        obtain ⟨bs1, bx1, by1, bf1, be1⟩ := B1_9.out
        obtain ⟨bs2, bx2, by2, bf2, be2⟩ := B2_9.out
        go_wp2_with fail
        refine (HA1.out _).mono ?_
        rintro e10 w10 ⟨rfl, hg⟩
        have T10 := Lib.hid (T9.out.trans (hg.mono T9.out.size))
        have B0_10 := Lib.hid (B0_9.out.below hg)
        have B1_10 := Lib.hid (B1_9.out.below hg)
        have B2_10 := Lib.hid (B2_9.out.below hg)
        clear hg
        clear bs0 bx0 by0 bf0 be0 bs1 bx1 by1 bf1 be1 bs2 bx2 by2 bf2 be2
        obtain ⟨bs0, bx0, by0, bf0, be0⟩ := B0_10.out
        obtain ⟨bs1, bx1, by1, bf1, be1⟩ := B1_10.out
        obtain ⟨bs2, bx2, by2, bf2, be2⟩ := B2_10.out
        go_wp2_with fail
        have G11 : Gr w10 (w10.alloc (.cells #[.int .i64 xn, .int .i64 xd] 23)) := (Gr.one _ _)
        have T11 := Lib.hid (T10.out.trans (G11.below.mono T10.out.size))
        have B0_11 := Lib.hid (B0_10.out.keep G11)
        have B1_11 := Lib.hid (B1_10.out.keep G11)
        have B2_11 := Lib.hid (B2_10.out.keep G11)
        have B3_11 : Hid (Blk (w10.alloc (.cells #[.int .i64 xn, .int .i64 xd] 23)) (w10.heap.size) (.int .i64 xn) (.int .i64 xd)) := Lib.hid (Blk.at00 _ _ _ _)
        generalize hw11 : (w10.alloc (.cells #[.int .i64 xn, .int .i64 xd] 23)) = w11 at *
        clear hw11 G11
        clear bs0 bx0 by0 bf0 be0 bs1 bx1 by1 bf1 be1 bs2 bx2 by2 bf2 be2
        obtain ⟨bs0, bx0, by0, bf0, be0⟩ := B0_11.out
        obtain ⟨bs1, bx1, by1, bf1, be1⟩ := B1_11.out
        obtain ⟨bs2, bx2, by2, bf2, be2⟩ := B2_11.out
        obtain ⟨bs3, bx3, by3, bf3, be3⟩ := B3_11.out
        refine (HA2.out _).mono ?_
        rintro e12 w12 ⟨rfl, hg⟩
        have T12 := Lib.hid (T11.out.trans (hg.mono T11.out.size))
        have B0_12 := Lib.hid (B0_11.out.below hg)
        have B1_12 := Lib.hid (B1_11.out.below hg)
        have B2_12 := Lib.hid (B2_11.out.below hg)
        have B3_12 := Lib.hid (B3_11.out.below hg)
        clear hg
        clear bs0 bx0 by0 bf0 be0 bs1 bx1 by1 bf1 be1 bs2 bx2 by2 bf2 be2 bs3 bx3 by3 bf3 be3
        obtain ⟨bs0, bx0, by0, bf0, be0⟩ := B0_12.out
        obtain ⟨bs1, bx1, by1, bf1, be1⟩ := B1_12.out
        obtain ⟨bs2, bx2, by2, bf2, be2⟩ := B2_12.out
        obtain ⟨bs3, bx3, by3, bf3, be3⟩ := B3_12.out
        go_wp2_with fail
        have G13 : Gr w12 (w12.alloc (.cells #[.int .i64 0, .int .i64 0] 23)) := (Gr.one _ _)
        have T13 := Lib.hid (T12.out.trans (G13.below.mono T12.out.size))
        have B0_13 := Lib.hid (B0_12.out.keep G13)
        have B1_13 := Lib.hid (B1_12.out.keep G13)
        have B2_13 := Lib.hid (B2_12.out.keep G13)
        have B3_13 := Lib.hid (B3_12.out.keep G13)
        have B4_13 : Hid (Blk (w12.alloc (.cells #[.int .i64 0, .int .i64 0] 23)) (w12.heap.size) (.int .i64 0) (.int .i64 0)) := Lib.hid (Blk.at00 _ _ _ _)
        generalize hw13 : (w12.alloc (.cells #[.int .i64 0, .int .i64 0] 23)) = w13 at *
        clear hw13 G13
        clear bs0 bx0 by0 bf0 be0 bs1 bx1 by1 bf1 be1 bs2 bx2 by2 bf2 be2 bs3 bx3 by3 bf3 be3
        obtain ⟨bs0, bx0, by0, bf0, be0⟩ := B0_13.out
        obtain ⟨bs1, bx1, by1, bf1, be1⟩ := B1_13.out
        obtain ⟨bs2, bx2, by2, bf2, be2⟩ := B2_13.out
        obtain ⟨bs3, bx3, by3, bf3, be3⟩ := B3_13.out
        obtain ⟨bs4, bx4, by4, bf4, be4⟩ := B4_13.out
        go_wp2_with fail
        go_ret
        exact ⟨rfl, T13.out⟩
    · obtain rfl : k1 = -1 := by omega
      clear e0 e1
      by_cases e3 : k3 ≤ 0
      · have e4 := (ht (by decide) e3).2 (by decide)
        clear ht
        rcases hne with b1 | ⟨b1, b2⟩
        all_goals
          go_enter Tryd.func5, Tryd.ntmps5
          go_wp2_with fail
          have T0 := Lib.hid (Below.refl w.heap.size w)
          have G1 : Gr w (((w.alloc (.cells #[.int .i64 a, .int .i64 b] 23)).alloc (.cells #[.int .i64 c, .int .i64 d] 23)).alloc (.cells #[.int .i64 p, .int .i64 q] 23)) := (((Gr.one _ _).alloc _).alloc _)
          have T1 := Lib.hid (T0.out.trans (G1.below.mono T0.out.size))
          have B0_1 : Hid (Blk (((w.alloc (.cells #[.int .i64 a, .int .i64 b] 23)).alloc (.cells #[.int .i64 c, .int .i64 d] 23)).alloc (.cells #[.int .i64 p, .int .i64 q] 23)) (w.heap.size) (.int .i64 a) (.int .i64 b)) := Lib.hid (Blk.at02 _ _ _ _ _ _)
          have B1_1 : Hid (Blk (((w.alloc (.cells #[.int .i64 a, .int .i64 b] 23)).alloc (.cells #[.int .i64 c, .int .i64 d] 23)).alloc (.cells #[.int .i64 p, .int .i64 q] 23)) (w.heap.size + 1) (.int .i64 c) (.int .i64 d)) := Lib.hid (Blk.at11 _ _ _ _ _ _)
          have B2_1 : Hid (Blk (((w.alloc (.cells #[.int .i64 a, .int .i64 b] 23)).alloc (.cells #[.int .i64 c, .int .i64 d] 23)).alloc (.cells #[.int .i64 p, .int .i64 q] 23)) (w.heap.size + 1 + 1) (.int .i64 p) (.int .i64 q)) := Lib.hid (Blk.at20 _ _ _ _ _ _)
          generalize hw1 : (((w.alloc (.cells #[.int .i64 a, .int .i64 b] 23)).alloc (.cells #[.int .i64 c, .int .i64 d] 23)).alloc (.cells #[.int .i64 p, .int .i64 q] 23)) = w1 at *
          clear hw1 G1
          obtain ⟨bs0, bx0, by0, bf0, be0⟩ := B0_1.out
          obtain ⟨bs1, bx1, by1, bf1, be1⟩ := B1_1.out
          obtain ⟨bs2, bx2, by2, bf2, be2⟩ := B2_1.out
          refine (head_any _ (HL.out.keep T1.out)).mono ?_
          rintro e2 w2 ⟨rfl, hg⟩
          have T2 := Lib.hid (T1.out.trans (hg.mono T1.out.size))
          have B0_2 := Lib.hid (B0_1.out.below hg)
          have B1_2 := Lib.hid (B1_1.out.below hg)
          have B2_2 := Lib.hid (B2_1.out.below hg)
          clear hg
          clear bs0 bx0 by0 bf0 be0 bs1 bx1 by1 bf1 be1 bs2 bx2 by2 bf2 be2
          obtain ⟨bs0, bx0, by0, bf0, be0⟩ := B0_2.out
          obtain ⟨bs1, bx1, by1, bf1, be1⟩ := B1_2.out
          obtain ⟨bs2, bx2, by2, bf2, be2⟩ := B2_2.out
          go_wp2_with fail
          refine (HV1.out _).mono ?_
          rintro e3 w3 ⟨rfl, hg⟩
          replace hg := hg.below
          have T3 := Lib.hid (T2.out.trans (hg.mono T2.out.size))
          have B0_3 := Lib.hid (B0_2.out.below hg)
          have B1_3 := Lib.hid (B1_2.out.below hg)
          have B2_3 := Lib.hid (B2_2.out.below hg)
          clear hg
          clear bs0 bx0 by0 bf0 be0 bs1 bx1 by1 bf1 be1 bs2 bx2 by2 bf2 be2
          obtain ⟨bs0, bx0, by0, bf0, be0⟩ := B0_3.out
          obtain ⟨bs1, bx1, by1, bf1, be1⟩ := B1_3.out
          obtain ⟨bs2, bx2, by2, bf2, be2⟩ := B2_3.out
          go_wp2_with fail
          refine (HV2.out _).mono ?_
          rintro e4 w4 ⟨rfl, hg⟩
          replace hg := hg.below
          have T4 := Lib.hid (T3.out.trans (hg.mono T3.out.size))
          have B0_4 := Lib.hid (B0_3.out.below hg)
          have B1_4 := Lib.hid (B1_3.out.below hg)
          have B2_4 := Lib.hid (B2_3.out.below hg)
          clear hg
          clear bs0 bx0 by0 bf0 be0 bs1 bx1 by1 bf1 be1 bs2 bx2 by2 bf2 be2
          obtain ⟨bs0, bx0, by0, bf0, be0⟩ := B0_4.out
          obtain ⟨bs1, bx1, by1, bf1, be1⟩ := B1_4.out
          obtain ⟨bs2, bx2, by2, bf2, be2⟩ := B2_4.out
          go_wp2_with fail
          refine (HV3.out _).mono ?_
          rintro e5 w5 ⟨rfl, hg⟩
          replace hg := hg.below
          have T5 := Lib.hid (T4.out.trans (hg.mono T4.out.size))
          have B0_5 := Lib.hid (B0_4.out.below hg)
          have B1_5 := Lib.hid (B1_4.out.below hg)
          have B2_5 := Lib.hid (B2_4.out.below hg)
          clear hg
          clear bs0 bx0 by0 bf0 be0 bs1 bx1 by1 bf1 be1 bs2 bx2 by2 bf2 be2
          obtain ⟨bs0, bx0, by0, bf0, be0⟩ := B0_5.out
          obtain ⟨bs1, bx1, by1, bf1, be1⟩ := B1_5.out
          obtain ⟨bs2, bx2, by2, bf2, be2⟩ := B2_5.out
          go_wp2_with fail
          refine (HC1.out _).mono ?_
          rintro e6 w6 ⟨rfl, hg⟩
          replace hg := hg.below
          have T6 := Lib.hid (T5.out.trans (hg.mono T5.out.size))
          have B0_6 := Lib.hid (B0_5.out.below hg)
          have B1_6 := Lib.hid (B1_5.out.below hg)
          have B2_6 := Lib.hid (B2_5.out.below hg)
          clear hg
          clear bs0 bx0 by0 bf0 be0 bs1 bx1 by1 bf1 be1 bs2 bx2 by2 bf2 be2
          obtain ⟨bs0, bx0, by0, bf0, be0⟩ := B0_6.out
          obtain ⟨bs1, bx1, by1, bf1, be1⟩ := B1_6.out
          obtain ⟨bs2, bx2, by2, bf2, be2⟩ := B2_6.out
          go_wp2_with fail
          refine (HC2.out _).mono ?_
          rintro e7 w7 ⟨rfl, hg⟩
          replace hg := hg.below
          have T7 := Lib.hid (T6.out.trans (hg.mono T6.out.size))
          have B0_7 := Lib.hid (B0_6.out.below hg)
          have B1_7 := Lib.hid (B1_6.out.below hg)
          have B2_7 := Lib.hid (B2_6.out.below hg)
          clear hg
          clear bs0 bx0 by0 bf0 be0 bs1 bx1 by1 bf1 be1 bs2 bx2 by2 bf2 be2
          obtain ⟨bs0, bx0, by0, bf0, be0⟩ := B0_7.out
          obtain ⟨bs1, bx1, by1, bf1, be1⟩ := B1_7.out
          obtain ⟨bs2, bx2, by2, bf2, be2⟩ := B2_7.out
          go_wp2_with fail
          refine (HC3.out _).mono ?_
          rintro e8 w8 ⟨rfl, hg⟩
          replace hg := hg.below
          have T8 := Lib.hid (T7.out.trans (hg.mono T7.out.size))
          have B0_8 := Lib.hid (B0_7.out.below hg)
          have B1_8 := Lib.hid (B1_7.out.below hg)
          have B2_8 := Lib.hid (B2_7.out.below hg)
          clear hg
          clear bs0 bx0 by0 bf0 be0 bs1 bx1 by1 bf1 be1 bs2 bx2 by2 bf2 be2
          obtain ⟨bs0, bx0, by0, bf0, be0⟩ := B0_8.out
          obtain ⟨bs1, bx1, by1, bf1, be1⟩ := B1_8.out
          obtain ⟨bs2, bx2, by2, bf2, be2⟩ := B2_8.out
          go_wp2_with fail
          refine (HC4.out _).mono ?_
          rintro e9 w9 ⟨rfl, hg⟩
          replace hg := hg.below
          have T9 := Lib.hid (T8.out.trans (hg.mono T8.out.size))
          have B0_9 := Lib.hid (B0_8.out.below hg)
          have B1_9 := Lib.hid (B1_8.out.below hg)
          have B2_9 := Lib.hid (B2_8.out.below hg)
          clear hg
          clear bs0 bx0 by0 bf0 be0 bs1 bx1 by1 bf1 be1 bs2 bx2 by2 bf2 be2
          obtain ⟨bs0, bx0, by0, bf0, be0⟩ := B0_9.out
          obtain ⟨bs1, bx1, by1, bf1, be1⟩ := B1_9.out
          obtain ⟨bs2, bx2, by2, bf2, be2⟩ := B2_9.out
          go_wp2_with fail
          refine (HA1.out _).mono ?_
          rintro e10 w10 ⟨rfl, hg⟩
          have T10 := Lib.hid (T9.out.trans (hg.mono T9.out.size))
          have B0_10 := Lib.hid (B0_9.out.below hg)
          have B1_10 := Lib.hid (B1_9.out.below hg)
          have B2_10 := Lib.hid (B2_9.out.below hg)
          clear hg
          clear bs0 bx0 by0 bf0 be0 bs1 bx1 by1 bf1 be1 bs2 bx2 by2 bf2 be2
          obtain ⟨bs0, bx0, by0, bf0, be0⟩ := B0_10.out
          obtain ⟨bs1, bx1, by1, bf1, be1⟩ := B1_10.out
          obtain ⟨bs2, bx2, by2, bf2, be2⟩ := B2_10.out
          go_wp2_with fail
          have G11 : Gr w10 (w10.alloc (.cells #[.int .i64 xn, .int .i64 xd] 23)) := (Gr.one _ _)
          have T11 := Lib.hid (T10.out.trans (G11.below.mono T10.out.size))
          have B0_11 := Lib.hid (B0_10.out.keep G11)
          have B1_11 := Lib.hid (B1_10.out.keep G11)
          have B2_11 := Lib.hid (B2_10.out.keep G11)
          have B3_11 : Hid (Blk (w10.alloc (.cells #[.int .i64 xn, .int .i64 xd] 23)) (w10.heap.size) (.int .i64 xn) (.int .i64 xd)) := Lib.hid (Blk.at00 _ _ _ _)
          generalize hw11 : (w10.alloc (.cells #[.int .i64 xn, .int .i64 xd] 23)) = w11 at *
          clear hw11 G11
          clear bs0 bx0 by0 bf0 be0 bs1 bx1 by1 bf1 be1 bs2 bx2 by2 bf2 be2
          obtain ⟨bs0, bx0, by0, bf0, be0⟩ := B0_11.out
          obtain ⟨bs1, bx1, by1, bf1, be1⟩ := B1_11.out
          obtain ⟨bs2, bx2, by2, bf2, be2⟩ := B2_11.out
          obtain ⟨bs3, bx3, by3, bf3, be3⟩ := B3_11.out
          refine (HA2.out _).mono ?_
          rintro e12 w12 ⟨rfl, hg⟩
          have T12 := Lib.hid (T11.out.trans (hg.mono T11.out.size))
          have B0_12 := Lib.hid (B0_11.out.below hg)
          have B1_12 := Lib.hid (B1_11.out.below hg)
          have B2_12 := Lib.hid (B2_11.out.below hg)
          have B3_12 := Lib.hid (B3_11.out.below hg)
          clear hg
          clear bs0 bx0 by0 bf0 be0 bs1 bx1 by1 bf1 be1 bs2 bx2 by2 bf2 be2 bs3 bx3 by3 bf3 be3
          obtain ⟨bs0, bx0, by0, bf0, be0⟩ := B0_12.out
          obtain ⟨bs1, bx1, by1, bf1, be1⟩ := B1_12.out
          obtain ⟨bs2, bx2, by2, bf2, be2⟩ := B2_12.out
          obtain ⟨bs3, bx3, by3, bf3, be3⟩ := B3_12.out
          go_wp2_with fail
          have G13 : Gr w12 (w12.alloc (.cells #[.int .i64 0, .int .i64 0] 23)) := (Gr.one _ _)
          have T13 := Lib.hid (T12.out.trans (G13.below.mono T12.out.size))
          have B0_13 := Lib.hid (B0_12.out.keep G13)
          have B1_13 := Lib.hid (B1_12.out.keep G13)
          have B2_13 := Lib.hid (B2_12.out.keep G13)
          have B3_13 := Lib.hid (B3_12.out.keep G13)
          have B4_13 : Hid (Blk (w12.alloc (.cells #[.int .i64 0, .int .i64 0] 23)) (w12.heap.size) (.int .i64 0) (.int .i64 0)) := Lib.hid (Blk.at00 _ _ _ _)
          generalize hw13 : (w12.alloc (.cells #[.int .i64 0, .int .i64 0] 23)) = w13 at *
          clear hw13 G13
          clear bs0 bx0 by0 bf0 be0 bs1 bx1 by1 bf1 be1 bs2 bx2 by2 bf2 be2 bs3 bx3 by3 bf3 be3
          obtain ⟨bs0, bx0, by0, bf0, be0⟩ := B0_13.out
          obtain ⟨bs1, bx1, by1, bf1, be1⟩ := B1_13.out
          obtain ⟨bs2, bx2, by2, bf2, be2⟩ := B2_13.out
          obtain ⟨bs3, bx3, by3, bf3, be3⟩ := B3_13.out
          obtain ⟨bs4, bx4, by4, bf4, be4⟩ := B4_13.out
          go_wp2_with fail
          go_ret
          exact ⟨rfl, T13.out⟩
      · clear ht
        rcases hne with b1 | ⟨b1, b2⟩
        all_goals
          go_enter Tryd.func5, Tryd.ntmps5
          go_wp2_with fail
          have T0 := Lib.hid (Below.refl w.heap.size w)
          have G1 : Gr w (((w.alloc (.cells #[.int .i64 a, .int .i64 b] 23)).alloc (.cells #[.int .i64 c, .int .i64 d] 23)).alloc (.cells #[.int .i64 p, .int .i64 q] 23)) := (((Gr.one _ _).alloc _).alloc _)
          have T1 := Lib.hid (T0.out.trans (G1.below.mono T0.out.size))
          have B0_1 : Hid (Blk (((w.alloc (.cells #[.int .i64 a, .int .i64 b] 23)).alloc (.cells #[.int .i64 c, .int .i64 d] 23)).alloc (.cells #[.int .i64 p, .int .i64 q] 23)) (w.heap.size) (.int .i64 a) (.int .i64 b)) := Lib.hid (Blk.at02 _ _ _ _ _ _)
          have B1_1 : Hid (Blk (((w.alloc (.cells #[.int .i64 a, .int .i64 b] 23)).alloc (.cells #[.int .i64 c, .int .i64 d] 23)).alloc (.cells #[.int .i64 p, .int .i64 q] 23)) (w.heap.size + 1) (.int .i64 c) (.int .i64 d)) := Lib.hid (Blk.at11 _ _ _ _ _ _)
          have B2_1 : Hid (Blk (((w.alloc (.cells #[.int .i64 a, .int .i64 b] 23)).alloc (.cells #[.int .i64 c, .int .i64 d] 23)).alloc (.cells #[.int .i64 p, .int .i64 q] 23)) (w.heap.size + 1 + 1) (.int .i64 p) (.int .i64 q)) := Lib.hid (Blk.at20 _ _ _ _ _ _)
          generalize hw1 : (((w.alloc (.cells #[.int .i64 a, .int .i64 b] 23)).alloc (.cells #[.int .i64 c, .int .i64 d] 23)).alloc (.cells #[.int .i64 p, .int .i64 q] 23)) = w1 at *
          clear hw1 G1
          obtain ⟨bs0, bx0, by0, bf0, be0⟩ := B0_1.out
          obtain ⟨bs1, bx1, by1, bf1, be1⟩ := B1_1.out
          obtain ⟨bs2, bx2, by2, bf2, be2⟩ := B2_1.out
          refine (head_any _ (HL.out.keep T1.out)).mono ?_
          rintro e2 w2 ⟨rfl, hg⟩
          have T2 := Lib.hid (T1.out.trans (hg.mono T1.out.size))
          have B0_2 := Lib.hid (B0_1.out.below hg)
          have B1_2 := Lib.hid (B1_1.out.below hg)
          have B2_2 := Lib.hid (B2_1.out.below hg)
          clear hg
          clear bs0 bx0 by0 bf0 be0 bs1 bx1 by1 bf1 be1 bs2 bx2 by2 bf2 be2
          obtain ⟨bs0, bx0, by0, bf0, be0⟩ := B0_2.out
          obtain ⟨bs1, bx1, by1, bf1, be1⟩ := B1_2.out
          obtain ⟨bs2, bx2, by2, bf2, be2⟩ := B2_2.out
          go_wp2_with fail
          refine (HV1.out _).mono ?_
          rintro e3 w3 ⟨rfl, hg⟩
          replace hg := hg.below
          have T3 := Lib.hid (T2.out.trans (hg.mono T2.out.size))
          have B0_3 := Lib.hid (B0_2.out.below hg)
          have B1_3 := Lib.hid (B1_2.out.below hg)
          have B2_3 := Lib.hid (B2_2.out.below hg)
          clear hg
          clear bs0 bx0 by0 bf0 be0 bs1 bx1 by1 bf1 be1 bs2 bx2 by2 bf2 be2
          obtain ⟨bs0, bx0, by0, bf0, be0⟩ := B0_3.out
          obtain ⟨bs1, bx1, by1, bf1, be1⟩ := B1_3.out
          obtain ⟨bs2, bx2, by2, bf2, be2⟩ := B2_3.out
          go_wp2_with fail
          refine (HV2.out _).mono ?_
          rintro e4 w4 ⟨rfl, hg⟩
          replace hg := hg.below
          have T4 := Lib.hid (T3.out.trans (hg.mono T3.out.size))
          have B0_4 := Lib.hid (B0_3.out.below hg)
          have B1_4 := Lib.hid (B1_3.out.below hg)
          have B2_4 := Lib.hid (B2_3.out.below hg)
          clear hg
          clear bs0 bx0 by0 bf0 be0 bs1 bx1 by1 bf1 be1 bs2 bx2 by2 bf2 be2
          obtain ⟨bs0, bx0, by0, bf0, be0⟩ := B0_4.out
          obtain ⟨bs1, bx1, by1, bf1, be1⟩ := B1_4.out
          obtain ⟨bs2, bx2, by2, bf2, be2⟩ := B2_4.out
          go_wp2_with fail
          refine (HV3.out _).mono ?_
          rintro e5 w5 ⟨rfl, hg⟩
          replace hg := hg.below
          have T5 := Lib.hid (T4.out.trans (hg.mono T4.out.size))
          have B0_5 := Lib.hid (B0_4.out.below hg)
          have B1_5 := Lib.hid (B1_4.out.below hg)
          have B2_5 := Lib.hid (B2_4.out.below hg)
          clear hg
          clear bs0 bx0 by0 bf0 be0 bs1 bx1 by1 bf1 be1 bs2 bx2 by2 bf2 be2
          obtain ⟨bs0, bx0, by0, bf0, be0⟩ := B0_5.out
          obtain ⟨bs1, bx1, by1, bf1, be1⟩ := B1_5.out
          obtain ⟨bs2, bx2, by2, bf2, be2⟩ := B2_5.out
          go_wp2_with fail
          refine (HC1.out _).mono ?_
          rintro e6 w6 ⟨rfl, hg⟩
          replace hg := hg.below
          have T6 := Lib.hid (T5.out.trans (hg.mono T5.out.size))
          have B0_6 := Lib.hid (B0_5.out.below hg)
          have B1_6 := Lib.hid (B1_5.out.below hg)
          have B2_6 := Lib.hid (B2_5.out.below hg)
          clear hg
          clear bs0 bx0 by0 bf0 be0 bs1 bx1 by1 bf1 be1 bs2 bx2 by2 bf2 be2
          obtain ⟨bs0, bx0, by0, bf0, be0⟩ := B0_6.out
          obtain ⟨bs1, bx1, by1, bf1, be1⟩ := B1_6.out
          obtain ⟨bs2, bx2, by2, bf2, be2⟩ := B2_6.out
          go_wp2_with fail
          refine (HC2.out _).mono ?_
          rintro e7 w7 ⟨rfl, hg⟩
          replace hg := hg.below
          have T7 := Lib.hid (T6.out.trans (hg.mono T6.out.size))
          have B0_7 := Lib.hid (B0_6.out.below hg)
          have B1_7 := Lib.hid (B1_6.out.below hg)
          have B2_7 := Lib.hid (B2_6.out.below hg)
          clear hg
          clear bs0 bx0 by0 bf0 be0 bs1 bx1 by1 bf1 be1 bs2 bx2 by2 bf2 be2
          obtain ⟨bs0, bx0, by0, bf0, be0⟩ := B0_7.out
          obtain ⟨bs1, bx1, by1, bf1, be1⟩ := B1_7.out
          obtain ⟨bs2, bx2, by2, bf2, be2⟩ := B2_7.out
          go_wp2_with fail
          refine (HC3.out _).mono ?_
          rintro e8 w8 ⟨rfl, hg⟩
          replace hg := hg.below
          have T8 := Lib.hid (T7.out.trans (hg.mono T7.out.size))
          have B0_8 := Lib.hid (B0_7.out.below hg)
          have B1_8 := Lib.hid (B1_7.out.below hg)
          have B2_8 := Lib.hid (B2_7.out.below hg)
          clear hg
          clear bs0 bx0 by0 bf0 be0 bs1 bx1 by1 bf1 be1 bs2 bx2 by2 bf2 be2
          obtain ⟨bs0, bx0, by0, bf0, be0⟩ := B0_8.out
          obtain ⟨bs1, bx1, by1, bf1, be1⟩ := B1_8.out
          obtain ⟨bs2, bx2, by2, bf2, be2⟩ := B2_8.out
          go_wp2_with fail
          refine (HC4.out _).mono ?_
          rintro e9 w9 ⟨rfl, hg⟩
          replace hg := hg.below
          have T9 := Lib.hid (T8.out.trans (hg.mono T8.out.size))
          have B0_9 := Lib.hid (B0_8.out.below hg)
          have B1_9 := Lib.hid (B1_8.out.below hg)
          have B2_9 := Lib.hid (B2_8.out.below hg)
          clear hg
          clear bs0 bx0 by0 bf0 be0 bs1 bx1 by1 bf1 be1 bs2 bx2 by2 bf2 be2
          obtain ⟨bs0, bx0, by0, bf0, be0⟩ := B0_9.out
          obtain ⟨bs1, bx1, by1, bf1, be1⟩ := B1_9.out
          obtain ⟨bs2, bx2, by2, bf2, be2⟩ := B2_9.out
          go_wp2_with fail
          refine (HA1.out _).mono ?_
          rintro e10 w10 ⟨rfl, hg⟩
          have T10 := Lib.hid (T9.out.trans (hg.mono T9.out.size))
          have B0_10 := Lib.hid (B0_9.out.below hg)
          have B1_10 := Lib.hid (B1_9.out.below hg)
          have B2_10 := Lib.hid (B2_9.out.below hg)
          clear hg
          clear bs0 bx0 by0 bf0 be0 bs1 bx1 by1 bf1 be1 bs2 bx2 by2 bf2 be2
          obtain ⟨bs0, bx0, by0, bf0, be0⟩ := B0_10.out
          obtain ⟨bs1, bx1, by1, bf1, be1⟩ := B1_10.out
          obtain ⟨bs2, bx2, by2, bf2, be2⟩ := B2_10.out
          go_wp2_with fail
          have G11 : Gr w10 (w10.alloc (.cells #[.int .i64 xn, .int .i64 xd] 23)) := (Gr.one _ _)
          have T11 := Lib.hid (T10.out.trans (G11.below.mono T10.out.size))
          have B0_11 := Lib.hid (B0_10.out.keep G11)
          have B1_11 := Lib.hid (B1_10.out.keep G11)
          have B2_11 := Lib.hid (B2_10.out.keep G11)
          have B3_11 : Hid (Blk (w10.alloc (.cells #[.int .i64 xn, .int .i64 xd] 23)) (w10.heap.size) (.int .i64 xn) (.int .i64 xd)) := Lib.hid (Blk.at00 _ _ _ _)
          generalize hw11 : (w10.alloc (.cells #[.int .i64 xn, .int .i64 xd] 23)) = w11 at *
          clear hw11 G11
          clear bs0 bx0 by0 bf0 be0 bs1 bx1 by1 bf1 be1 bs2 bx2 by2 bf2 be2
          obtain ⟨bs0, bx0, by0, bf0, be0⟩ := B0_11.out
          obtain ⟨bs1, bx1, by1, bf1, be1⟩ := B1_11.out
          obtain ⟨bs2, bx2, by2, bf2, be2⟩ := B2_11.out
          obtain ⟨bs3, bx3, by3, bf3, be3⟩ := B3_11.out
          refine (HA2.out _).mono ?_
          rintro e12 w12 ⟨rfl, hg⟩
          have T12 := Lib.hid (T11.out.trans (hg.mono T11.out.size))
          have B0_12 := Lib.hid (B0_11.out.below hg)
          have B1_12 := Lib.hid (B1_11.out.below hg)
          have B2_12 := Lib.hid (B2_11.out.below hg)
          have B3_12 := Lib.hid (B3_11.out.below hg)
          clear hg
          clear bs0 bx0 by0 bf0 be0 bs1 bx1 by1 bf1 be1 bs2 bx2 by2 bf2 be2 bs3 bx3 by3 bf3 be3
          obtain ⟨bs0, bx0, by0, bf0, be0⟩ := B0_12.out
          obtain ⟨bs1, bx1, by1, bf1, be1⟩ := B1_12.out
          obtain ⟨bs2, bx2, by2, bf2, be2⟩ := B2_12.out
          obtain ⟨bs3, bx3, by3, bf3, be3⟩ := B3_12.out
          go_wp2_with fail
          have G13 : Gr w12 (w12.alloc (.cells #[.int .i64 0, .int .i64 0] 23)) := (Gr.one _ _)
          have T13 := Lib.hid (T12.out.trans (G13.below.mono T12.out.size))
          have B0_13 := Lib.hid (B0_12.out.keep G13)
          have B1_13 := Lib.hid (B1_12.out.keep G13)
          have B2_13 := Lib.hid (B2_12.out.keep G13)
          have B3_13 := Lib.hid (B3_12.out.keep G13)
          have B4_13 : Hid (Blk (w12.alloc (.cells #[.int .i64 0, .int .i64 0] 23)) (w12.heap.size) (.int .i64 0) (.int .i64 0)) := Lib.hid (Blk.at00 _ _ _ _)
          generalize hw13 : (w12.alloc (.cells #[.int .i64 0, .int .i64 0] 23)) = w13 at *
          clear hw13 G13
          clear bs0 bx0 by0 bf0 be0 bs1 bx1 by1 bf1 be1 bs2 bx2 by2 bf2 be2 bs3 bx3 by3 bf3 be3
          obtain ⟨bs0, bx0, by0, bf0, be0⟩ := B0_13.out
          obtain ⟨bs1, bx1, by1, bf1, be1⟩ := B1_13.out
          obtain ⟨bs2, bx2, by2, bf2, be2⟩ := B2_13.out
          obtain ⟨bs3, bx3, by3, bf3, be3⟩ := B3_13.out
          obtain ⟨bs4, bx4, by4, bf4, be4⟩ := B4_13.out
          go_wp2_with fail
          go_ret
          exact ⟨rfl, T13.out⟩
set_option maxRecDepth 100000 in
set_option maxHeartbeats 8000000 in
theorem order_way3 (a b c d p q k1 k3 k4 xn xd yn yd : Int) (w : World) (hk : -1 ≤ k1 ∧ k1 ≤ 1) (hz : k1 = 0 ↔ (a = c ∧ b = d)) (ht : k1 ≤ 0 → k3 ≤ 0 → k4 ≤ 0 ∧ (k1 < 0 → k4 < 0)) (HL : Hid (Laid w)) (HV1 : Hid (∀ W, Calls Tryd.prog 16 #[.agg #[.int .i64 a, .int .i64 b]] W fun e w' => e = .returned (.bool true) ∧ Gr W w')) (HV2 : Hid (∀ W, Calls Tryd.prog 16 #[.agg #[.int .i64 c, .int .i64 d]] W fun e w' => e = .returned (.bool true) ∧ Gr W w')) (HV3 : Hid (∀ W, Calls Tryd.prog 16 #[.agg #[.int .i64 p, .int .i64 q]] W fun e w' => e = .returned (.bool true) ∧ Gr W w'))
    (HC1 : Hid (∀ W, Calls Tryd.prog 18 #[.agg #[.int .i64 a, .int .i64 b], .agg #[.int .i64 c, .int .i64 d]] W fun e w' => e = .returned (.tuple #[.int .i64 k1, .int .i64 0]) ∧ Gr W w')) (HC2 : Hid (∀ W, Calls Tryd.prog 18 #[.agg #[.int .i64 c, .int .i64 d], .agg #[.int .i64 a, .int .i64 b]] W fun e w' => e = .returned (.tuple #[.int .i64 (-k1), .int .i64 0]) ∧ Gr W w'))
    (HC3 : Hid (∀ W, Calls Tryd.prog 18 #[.agg #[.int .i64 c, .int .i64 d], .agg #[.int .i64 p, .int .i64 q]] W fun e w' => e = .returned (.tuple #[.int .i64 k3, .int .i64 0]) ∧ Gr W w')) (HC4 : Hid (∀ W, Calls Tryd.prog 18 #[.agg #[.int .i64 a, .int .i64 b], .agg #[.int .i64 p, .int .i64 q]] W fun e w' => e = .returned (.tuple #[.int .i64 k4, .int .i64 0]) ∧ Gr W w'))
    (HA1 : Hid (∀ W, Calls Tryd.prog 12 #[.agg #[.int .i64 a, .int .i64 b], .agg #[.int .i64 p, .int .i64 q]] W fun e w' => e = .returned (.tuple #[.agg #[.int .i64 xn, .int .i64 xd], .int .i64 0]) ∧ Below W.heap.size W w')) (HA2 : Hid (∀ W, Calls Tryd.prog 12 #[.agg #[.int .i64 c, .int .i64 d], .agg #[.int .i64 p, .int .i64 q]] W fun e w' => e = .returned (.tuple #[.agg #[.int .i64 yn, .int .i64 yd], .int .i64 0]) ∧ Below W.heap.size W w'))
    (HC5 : Hid (∀ W, Calls Tryd.prog 18 #[.agg #[.int .i64 xn, .int .i64 xd], .agg #[.int .i64 yn, .int .i64 yd]] W fun e w' => e = .returned (.tuple #[.int .i64 k1, .int .i64 0]) ∧ Gr W w')) : Calls Tryd.prog 5 #[.agg #[.int .i64 a, .int .i64 b], .agg #[.int .i64 c, .int .i64 d], .agg #[.int .i64 p, .int .i64 q]] w (Yes w) := by
  obtain ⟨hk0, hk1⟩ := hk
  by_cases e0 : k1 = 0
  · obtain ⟨rfl, rfl⟩ := hz.1 e0
    subst e0
    clear hz hk0 hk1
    by_cases e3 : k3 ≤ 0
    · have e4 := (ht (by decide) e3).1
      clear ht
      go_enter Tryd.func5, Tryd.ntmps5
      go_wp2_with fail
      have T0 := Lib.hid (Below.refl w.heap.size w)
      have G1 : Gr w (((w.alloc (.cells #[.int .i64 a, .int .i64 b] 23)).alloc (.cells #[.int .i64 a, .int .i64 b] 23)).alloc (.cells #[.int .i64 p, .int .i64 q] 23)) := (((Gr.one _ _).alloc _).alloc _)
      have T1 := Lib.hid (T0.out.trans (G1.below.mono T0.out.size))
      have B0_1 : Hid (Blk (((w.alloc (.cells #[.int .i64 a, .int .i64 b] 23)).alloc (.cells #[.int .i64 a, .int .i64 b] 23)).alloc (.cells #[.int .i64 p, .int .i64 q] 23)) (w.heap.size) (.int .i64 a) (.int .i64 b)) := Lib.hid (Blk.at02 _ _ _ _ _ _)
      have B1_1 : Hid (Blk (((w.alloc (.cells #[.int .i64 a, .int .i64 b] 23)).alloc (.cells #[.int .i64 a, .int .i64 b] 23)).alloc (.cells #[.int .i64 p, .int .i64 q] 23)) (w.heap.size + 1) (.int .i64 a) (.int .i64 b)) := Lib.hid (Blk.at11 _ _ _ _ _ _)
      have B2_1 : Hid (Blk (((w.alloc (.cells #[.int .i64 a, .int .i64 b] 23)).alloc (.cells #[.int .i64 a, .int .i64 b] 23)).alloc (.cells #[.int .i64 p, .int .i64 q] 23)) (w.heap.size + 1 + 1) (.int .i64 p) (.int .i64 q)) := Lib.hid (Blk.at20 _ _ _ _ _ _)
      generalize hw1 : (((w.alloc (.cells #[.int .i64 a, .int .i64 b] 23)).alloc (.cells #[.int .i64 a, .int .i64 b] 23)).alloc (.cells #[.int .i64 p, .int .i64 q] 23)) = w1 at *
      clear hw1 G1
      obtain ⟨bs0, bx0, by0, bf0, be0⟩ := B0_1.out
      obtain ⟨bs1, bx1, by1, bf1, be1⟩ := B1_1.out
      obtain ⟨bs2, bx2, by2, bf2, be2⟩ := B2_1.out
      refine (head_any _ (HL.out.keep T1.out)).mono ?_
      rintro e2 w2 ⟨rfl, hg⟩
      have T2 := Lib.hid (T1.out.trans (hg.mono T1.out.size))
      have B0_2 := Lib.hid (B0_1.out.below hg)
      have B1_2 := Lib.hid (B1_1.out.below hg)
      have B2_2 := Lib.hid (B2_1.out.below hg)
      clear hg
      clear bs0 bx0 by0 bf0 be0 bs1 bx1 by1 bf1 be1 bs2 bx2 by2 bf2 be2
      obtain ⟨bs0, bx0, by0, bf0, be0⟩ := B0_2.out
      obtain ⟨bs1, bx1, by1, bf1, be1⟩ := B1_2.out
      obtain ⟨bs2, bx2, by2, bf2, be2⟩ := B2_2.out
      go_wp2_with fail
      refine (HV1.out _).mono ?_
      rintro e3 w3 ⟨rfl, hg⟩
      replace hg := hg.below
      have T3 := Lib.hid (T2.out.trans (hg.mono T2.out.size))
      have B0_3 := Lib.hid (B0_2.out.below hg)
      have B1_3 := Lib.hid (B1_2.out.below hg)
      have B2_3 := Lib.hid (B2_2.out.below hg)
      clear hg
      clear bs0 bx0 by0 bf0 be0 bs1 bx1 by1 bf1 be1 bs2 bx2 by2 bf2 be2
      obtain ⟨bs0, bx0, by0, bf0, be0⟩ := B0_3.out
      obtain ⟨bs1, bx1, by1, bf1, be1⟩ := B1_3.out
      obtain ⟨bs2, bx2, by2, bf2, be2⟩ := B2_3.out
      go_wp2_with fail
      refine (HV2.out _).mono ?_
      rintro e4 w4 ⟨rfl, hg⟩
      replace hg := hg.below
      have T4 := Lib.hid (T3.out.trans (hg.mono T3.out.size))
      have B0_4 := Lib.hid (B0_3.out.below hg)
      have B1_4 := Lib.hid (B1_3.out.below hg)
      have B2_4 := Lib.hid (B2_3.out.below hg)
      clear hg
      clear bs0 bx0 by0 bf0 be0 bs1 bx1 by1 bf1 be1 bs2 bx2 by2 bf2 be2
      obtain ⟨bs0, bx0, by0, bf0, be0⟩ := B0_4.out
      obtain ⟨bs1, bx1, by1, bf1, be1⟩ := B1_4.out
      obtain ⟨bs2, bx2, by2, bf2, be2⟩ := B2_4.out
      go_wp2_with fail
      refine (HV3.out _).mono ?_
      rintro e5 w5 ⟨rfl, hg⟩
      replace hg := hg.below
      have T5 := Lib.hid (T4.out.trans (hg.mono T4.out.size))
      have B0_5 := Lib.hid (B0_4.out.below hg)
      have B1_5 := Lib.hid (B1_4.out.below hg)
      have B2_5 := Lib.hid (B2_4.out.below hg)
      clear hg
      clear bs0 bx0 by0 bf0 be0 bs1 bx1 by1 bf1 be1 bs2 bx2 by2 bf2 be2
      obtain ⟨bs0, bx0, by0, bf0, be0⟩ := B0_5.out
      obtain ⟨bs1, bx1, by1, bf1, be1⟩ := B1_5.out
      obtain ⟨bs2, bx2, by2, bf2, be2⟩ := B2_5.out
      go_wp2_with fail
      refine (HC1.out _).mono ?_
      rintro e6 w6 ⟨rfl, hg⟩
      replace hg := hg.below
      have T6 := Lib.hid (T5.out.trans (hg.mono T5.out.size))
      have B0_6 := Lib.hid (B0_5.out.below hg)
      have B1_6 := Lib.hid (B1_5.out.below hg)
      have B2_6 := Lib.hid (B2_5.out.below hg)
      clear hg
      clear bs0 bx0 by0 bf0 be0 bs1 bx1 by1 bf1 be1 bs2 bx2 by2 bf2 be2
      obtain ⟨bs0, bx0, by0, bf0, be0⟩ := B0_6.out
      obtain ⟨bs1, bx1, by1, bf1, be1⟩ := B1_6.out
      obtain ⟨bs2, bx2, by2, bf2, be2⟩ := B2_6.out
      go_wp2_with fail
      refine (HC2.out _).mono ?_
      rintro e7 w7 ⟨rfl, hg⟩
      replace hg := hg.below
      have T7 := Lib.hid (T6.out.trans (hg.mono T6.out.size))
      have B0_7 := Lib.hid (B0_6.out.below hg)
      have B1_7 := Lib.hid (B1_6.out.below hg)
      have B2_7 := Lib.hid (B2_6.out.below hg)
      clear hg
      clear bs0 bx0 by0 bf0 be0 bs1 bx1 by1 bf1 be1 bs2 bx2 by2 bf2 be2
      obtain ⟨bs0, bx0, by0, bf0, be0⟩ := B0_7.out
      obtain ⟨bs1, bx1, by1, bf1, be1⟩ := B1_7.out
      obtain ⟨bs2, bx2, by2, bf2, be2⟩ := B2_7.out
      go_wp2_with fail
      refine (HC3.out _).mono ?_
      rintro e8 w8 ⟨rfl, hg⟩
      replace hg := hg.below
      have T8 := Lib.hid (T7.out.trans (hg.mono T7.out.size))
      have B0_8 := Lib.hid (B0_7.out.below hg)
      have B1_8 := Lib.hid (B1_7.out.below hg)
      have B2_8 := Lib.hid (B2_7.out.below hg)
      clear hg
      clear bs0 bx0 by0 bf0 be0 bs1 bx1 by1 bf1 be1 bs2 bx2 by2 bf2 be2
      obtain ⟨bs0, bx0, by0, bf0, be0⟩ := B0_8.out
      obtain ⟨bs1, bx1, by1, bf1, be1⟩ := B1_8.out
      obtain ⟨bs2, bx2, by2, bf2, be2⟩ := B2_8.out
      go_wp2_with fail
      refine (HC4.out _).mono ?_
      rintro e9 w9 ⟨rfl, hg⟩
      replace hg := hg.below
      have T9 := Lib.hid (T8.out.trans (hg.mono T8.out.size))
      have B0_9 := Lib.hid (B0_8.out.below hg)
      have B1_9 := Lib.hid (B1_8.out.below hg)
      have B2_9 := Lib.hid (B2_8.out.below hg)
      clear hg
      clear bs0 bx0 by0 bf0 be0 bs1 bx1 by1 bf1 be1 bs2 bx2 by2 bf2 be2
      obtain ⟨bs0, bx0, by0, bf0, be0⟩ := B0_9.out
      obtain ⟨bs1, bx1, by1, bf1, be1⟩ := B1_9.out
      obtain ⟨bs2, bx2, by2, bf2, be2⟩ := B2_9.out
      go_wp2_with fail
      refine (HA1.out _).mono ?_
      rintro e10 w10 ⟨rfl, hg⟩
      have T10 := Lib.hid (T9.out.trans (hg.mono T9.out.size))
      have B0_10 := Lib.hid (B0_9.out.below hg)
      have B1_10 := Lib.hid (B1_9.out.below hg)
      have B2_10 := Lib.hid (B2_9.out.below hg)
      clear hg
      clear bs0 bx0 by0 bf0 be0 bs1 bx1 by1 bf1 be1 bs2 bx2 by2 bf2 be2
      obtain ⟨bs0, bx0, by0, bf0, be0⟩ := B0_10.out
      obtain ⟨bs1, bx1, by1, bf1, be1⟩ := B1_10.out
      obtain ⟨bs2, bx2, by2, bf2, be2⟩ := B2_10.out
      go_wp2_with fail
      have G11 : Gr w10 (w10.alloc (.cells #[.int .i64 xn, .int .i64 xd] 23)) := (Gr.one _ _)
      have T11 := Lib.hid (T10.out.trans (G11.below.mono T10.out.size))
      have B0_11 := Lib.hid (B0_10.out.keep G11)
      have B1_11 := Lib.hid (B1_10.out.keep G11)
      have B2_11 := Lib.hid (B2_10.out.keep G11)
      have B3_11 : Hid (Blk (w10.alloc (.cells #[.int .i64 xn, .int .i64 xd] 23)) (w10.heap.size) (.int .i64 xn) (.int .i64 xd)) := Lib.hid (Blk.at00 _ _ _ _)
      generalize hw11 : (w10.alloc (.cells #[.int .i64 xn, .int .i64 xd] 23)) = w11 at *
      clear hw11 G11
      clear bs0 bx0 by0 bf0 be0 bs1 bx1 by1 bf1 be1 bs2 bx2 by2 bf2 be2
      obtain ⟨bs0, bx0, by0, bf0, be0⟩ := B0_11.out
      obtain ⟨bs1, bx1, by1, bf1, be1⟩ := B1_11.out
      obtain ⟨bs2, bx2, by2, bf2, be2⟩ := B2_11.out
      obtain ⟨bs3, bx3, by3, bf3, be3⟩ := B3_11.out
      refine (HA2.out _).mono ?_
      rintro e12 w12 ⟨rfl, hg⟩
      have T12 := Lib.hid (T11.out.trans (hg.mono T11.out.size))
      have B0_12 := Lib.hid (B0_11.out.below hg)
      have B1_12 := Lib.hid (B1_11.out.below hg)
      have B2_12 := Lib.hid (B2_11.out.below hg)
      have B3_12 := Lib.hid (B3_11.out.below hg)
      clear hg
      clear bs0 bx0 by0 bf0 be0 bs1 bx1 by1 bf1 be1 bs2 bx2 by2 bf2 be2 bs3 bx3 by3 bf3 be3
      obtain ⟨bs0, bx0, by0, bf0, be0⟩ := B0_12.out
      obtain ⟨bs1, bx1, by1, bf1, be1⟩ := B1_12.out
      obtain ⟨bs2, bx2, by2, bf2, be2⟩ := B2_12.out
      obtain ⟨bs3, bx3, by3, bf3, be3⟩ := B3_12.out
      go_wp2_with fail
      have G13 : Gr w12 (w12.alloc (.cells #[.int .i64 yn, .int .i64 yd] 23)) := (Gr.one _ _)
      have T13 := Lib.hid (T12.out.trans (G13.below.mono T12.out.size))
      have B0_13 := Lib.hid (B0_12.out.keep G13)
      have B1_13 := Lib.hid (B1_12.out.keep G13)
      have B2_13 := Lib.hid (B2_12.out.keep G13)
      have B3_13 := Lib.hid (B3_12.out.keep G13)
      have B4_13 : Hid (Blk (w12.alloc (.cells #[.int .i64 yn, .int .i64 yd] 23)) (w12.heap.size) (.int .i64 yn) (.int .i64 yd)) := Lib.hid (Blk.at00 _ _ _ _)
      generalize hw13 : (w12.alloc (.cells #[.int .i64 yn, .int .i64 yd] 23)) = w13 at *
      clear hw13 G13
      clear bs0 bx0 by0 bf0 be0 bs1 bx1 by1 bf1 be1 bs2 bx2 by2 bf2 be2 bs3 bx3 by3 bf3 be3
      obtain ⟨bs0, bx0, by0, bf0, be0⟩ := B0_13.out
      obtain ⟨bs1, bx1, by1, bf1, be1⟩ := B1_13.out
      obtain ⟨bs2, bx2, by2, bf2, be2⟩ := B2_13.out
      obtain ⟨bs3, bx3, by3, bf3, be3⟩ := B3_13.out
      obtain ⟨bs4, bx4, by4, bf4, be4⟩ := B4_13.out
      refine (HC5.out _).mono ?_
      rintro e14 w14 ⟨rfl, hg⟩
      replace hg := hg.below
      have T14 := Lib.hid (T13.out.trans (hg.mono T13.out.size))
      have B0_14 := Lib.hid (B0_13.out.below hg)
      have B1_14 := Lib.hid (B1_13.out.below hg)
      have B2_14 := Lib.hid (B2_13.out.below hg)
      have B3_14 := Lib.hid (B3_13.out.below hg)
      have B4_14 := Lib.hid (B4_13.out.below hg)
      clear hg
      clear bs0 bx0 by0 bf0 be0 bs1 bx1 by1 bf1 be1 bs2 bx2 by2 bf2 be2 bs3 bx3 by3 bf3 be3 bs4 bx4 by4 bf4 be4
      obtain ⟨bs0, bx0, by0, bf0, be0⟩ := B0_14.out
      obtain ⟨bs1, bx1, by1, bf1, be1⟩ := B1_14.out
      obtain ⟨bs2, bx2, by2, bf2, be2⟩ := B2_14.out
      obtain ⟨bs3, bx3, by3, bf3, be3⟩ := B3_14.out
      obtain ⟨bs4, bx4, by4, bf4, be4⟩ := B4_14.out
      go_wp2_with fail
      go_ret
      exact ⟨rfl, T14.out⟩
    · clear ht
      go_enter Tryd.func5, Tryd.ntmps5
      go_wp2_with fail
      have T0 := Lib.hid (Below.refl w.heap.size w)
      have G1 : Gr w (((w.alloc (.cells #[.int .i64 a, .int .i64 b] 23)).alloc (.cells #[.int .i64 a, .int .i64 b] 23)).alloc (.cells #[.int .i64 p, .int .i64 q] 23)) := (((Gr.one _ _).alloc _).alloc _)
      have T1 := Lib.hid (T0.out.trans (G1.below.mono T0.out.size))
      have B0_1 : Hid (Blk (((w.alloc (.cells #[.int .i64 a, .int .i64 b] 23)).alloc (.cells #[.int .i64 a, .int .i64 b] 23)).alloc (.cells #[.int .i64 p, .int .i64 q] 23)) (w.heap.size) (.int .i64 a) (.int .i64 b)) := Lib.hid (Blk.at02 _ _ _ _ _ _)
      have B1_1 : Hid (Blk (((w.alloc (.cells #[.int .i64 a, .int .i64 b] 23)).alloc (.cells #[.int .i64 a, .int .i64 b] 23)).alloc (.cells #[.int .i64 p, .int .i64 q] 23)) (w.heap.size + 1) (.int .i64 a) (.int .i64 b)) := Lib.hid (Blk.at11 _ _ _ _ _ _)
      have B2_1 : Hid (Blk (((w.alloc (.cells #[.int .i64 a, .int .i64 b] 23)).alloc (.cells #[.int .i64 a, .int .i64 b] 23)).alloc (.cells #[.int .i64 p, .int .i64 q] 23)) (w.heap.size + 1 + 1) (.int .i64 p) (.int .i64 q)) := Lib.hid (Blk.at20 _ _ _ _ _ _)
      generalize hw1 : (((w.alloc (.cells #[.int .i64 a, .int .i64 b] 23)).alloc (.cells #[.int .i64 a, .int .i64 b] 23)).alloc (.cells #[.int .i64 p, .int .i64 q] 23)) = w1 at *
      clear hw1 G1
      obtain ⟨bs0, bx0, by0, bf0, be0⟩ := B0_1.out
      obtain ⟨bs1, bx1, by1, bf1, be1⟩ := B1_1.out
      obtain ⟨bs2, bx2, by2, bf2, be2⟩ := B2_1.out
      refine (head_any _ (HL.out.keep T1.out)).mono ?_
      rintro e2 w2 ⟨rfl, hg⟩
      have T2 := Lib.hid (T1.out.trans (hg.mono T1.out.size))
      have B0_2 := Lib.hid (B0_1.out.below hg)
      have B1_2 := Lib.hid (B1_1.out.below hg)
      have B2_2 := Lib.hid (B2_1.out.below hg)
      clear hg
      clear bs0 bx0 by0 bf0 be0 bs1 bx1 by1 bf1 be1 bs2 bx2 by2 bf2 be2
      obtain ⟨bs0, bx0, by0, bf0, be0⟩ := B0_2.out
      obtain ⟨bs1, bx1, by1, bf1, be1⟩ := B1_2.out
      obtain ⟨bs2, bx2, by2, bf2, be2⟩ := B2_2.out
      go_wp2_with fail
      refine (HV1.out _).mono ?_
      rintro e3 w3 ⟨rfl, hg⟩
      replace hg := hg.below
      have T3 := Lib.hid (T2.out.trans (hg.mono T2.out.size))
      have B0_3 := Lib.hid (B0_2.out.below hg)
      have B1_3 := Lib.hid (B1_2.out.below hg)
      have B2_3 := Lib.hid (B2_2.out.below hg)
      clear hg
      clear bs0 bx0 by0 bf0 be0 bs1 bx1 by1 bf1 be1 bs2 bx2 by2 bf2 be2
      obtain ⟨bs0, bx0, by0, bf0, be0⟩ := B0_3.out
      obtain ⟨bs1, bx1, by1, bf1, be1⟩ := B1_3.out
      obtain ⟨bs2, bx2, by2, bf2, be2⟩ := B2_3.out
      go_wp2_with fail
      refine (HV2.out _).mono ?_
      rintro e4 w4 ⟨rfl, hg⟩
      replace hg := hg.below
      have T4 := Lib.hid (T3.out.trans (hg.mono T3.out.size))
      have B0_4 := Lib.hid (B0_3.out.below hg)
      have B1_4 := Lib.hid (B1_3.out.below hg)
      have B2_4 := Lib.hid (B2_3.out.below hg)
      clear hg
      clear bs0 bx0 by0 bf0 be0 bs1 bx1 by1 bf1 be1 bs2 bx2 by2 bf2 be2
      obtain ⟨bs0, bx0, by0, bf0, be0⟩ := B0_4.out
      obtain ⟨bs1, bx1, by1, bf1, be1⟩ := B1_4.out
      obtain ⟨bs2, bx2, by2, bf2, be2⟩ := B2_4.out
      go_wp2_with fail
      refine (HV3.out _).mono ?_
      rintro e5 w5 ⟨rfl, hg⟩
      replace hg := hg.below
      have T5 := Lib.hid (T4.out.trans (hg.mono T4.out.size))
      have B0_5 := Lib.hid (B0_4.out.below hg)
      have B1_5 := Lib.hid (B1_4.out.below hg)
      have B2_5 := Lib.hid (B2_4.out.below hg)
      clear hg
      clear bs0 bx0 by0 bf0 be0 bs1 bx1 by1 bf1 be1 bs2 bx2 by2 bf2 be2
      obtain ⟨bs0, bx0, by0, bf0, be0⟩ := B0_5.out
      obtain ⟨bs1, bx1, by1, bf1, be1⟩ := B1_5.out
      obtain ⟨bs2, bx2, by2, bf2, be2⟩ := B2_5.out
      go_wp2_with fail
      refine (HC1.out _).mono ?_
      rintro e6 w6 ⟨rfl, hg⟩
      replace hg := hg.below
      have T6 := Lib.hid (T5.out.trans (hg.mono T5.out.size))
      have B0_6 := Lib.hid (B0_5.out.below hg)
      have B1_6 := Lib.hid (B1_5.out.below hg)
      have B2_6 := Lib.hid (B2_5.out.below hg)
      clear hg
      clear bs0 bx0 by0 bf0 be0 bs1 bx1 by1 bf1 be1 bs2 bx2 by2 bf2 be2
      obtain ⟨bs0, bx0, by0, bf0, be0⟩ := B0_6.out
      obtain ⟨bs1, bx1, by1, bf1, be1⟩ := B1_6.out
      obtain ⟨bs2, bx2, by2, bf2, be2⟩ := B2_6.out
      go_wp2_with fail
      refine (HC2.out _).mono ?_
      rintro e7 w7 ⟨rfl, hg⟩
      replace hg := hg.below
      have T7 := Lib.hid (T6.out.trans (hg.mono T6.out.size))
      have B0_7 := Lib.hid (B0_6.out.below hg)
      have B1_7 := Lib.hid (B1_6.out.below hg)
      have B2_7 := Lib.hid (B2_6.out.below hg)
      clear hg
      clear bs0 bx0 by0 bf0 be0 bs1 bx1 by1 bf1 be1 bs2 bx2 by2 bf2 be2
      obtain ⟨bs0, bx0, by0, bf0, be0⟩ := B0_7.out
      obtain ⟨bs1, bx1, by1, bf1, be1⟩ := B1_7.out
      obtain ⟨bs2, bx2, by2, bf2, be2⟩ := B2_7.out
      go_wp2_with fail
      refine (HC3.out _).mono ?_
      rintro e8 w8 ⟨rfl, hg⟩
      replace hg := hg.below
      have T8 := Lib.hid (T7.out.trans (hg.mono T7.out.size))
      have B0_8 := Lib.hid (B0_7.out.below hg)
      have B1_8 := Lib.hid (B1_7.out.below hg)
      have B2_8 := Lib.hid (B2_7.out.below hg)
      clear hg
      clear bs0 bx0 by0 bf0 be0 bs1 bx1 by1 bf1 be1 bs2 bx2 by2 bf2 be2
      obtain ⟨bs0, bx0, by0, bf0, be0⟩ := B0_8.out
      obtain ⟨bs1, bx1, by1, bf1, be1⟩ := B1_8.out
      obtain ⟨bs2, bx2, by2, bf2, be2⟩ := B2_8.out
      go_wp2_with fail
      refine (HC4.out _).mono ?_
      rintro e9 w9 ⟨rfl, hg⟩
      replace hg := hg.below
      have T9 := Lib.hid (T8.out.trans (hg.mono T8.out.size))
      have B0_9 := Lib.hid (B0_8.out.below hg)
      have B1_9 := Lib.hid (B1_8.out.below hg)
      have B2_9 := Lib.hid (B2_8.out.below hg)
      clear hg
      clear bs0 bx0 by0 bf0 be0 bs1 bx1 by1 bf1 be1 bs2 bx2 by2 bf2 be2
      obtain ⟨bs0, bx0, by0, bf0, be0⟩ := B0_9.out
      obtain ⟨bs1, bx1, by1, bf1, be1⟩ := B1_9.out
      obtain ⟨bs2, bx2, by2, bf2, be2⟩ := B2_9.out
      go_wp2_with fail
      refine (HA1.out _).mono ?_
      rintro e10 w10 ⟨rfl, hg⟩
      have T10 := Lib.hid (T9.out.trans (hg.mono T9.out.size))
      have B0_10 := Lib.hid (B0_9.out.below hg)
      have B1_10 := Lib.hid (B1_9.out.below hg)
      have B2_10 := Lib.hid (B2_9.out.below hg)
      clear hg
      clear bs0 bx0 by0 bf0 be0 bs1 bx1 by1 bf1 be1 bs2 bx2 by2 bf2 be2
      obtain ⟨bs0, bx0, by0, bf0, be0⟩ := B0_10.out
      obtain ⟨bs1, bx1, by1, bf1, be1⟩ := B1_10.out
      obtain ⟨bs2, bx2, by2, bf2, be2⟩ := B2_10.out
      go_wp2_with fail
      have G11 : Gr w10 (w10.alloc (.cells #[.int .i64 xn, .int .i64 xd] 23)) := (Gr.one _ _)
      have T11 := Lib.hid (T10.out.trans (G11.below.mono T10.out.size))
      have B0_11 := Lib.hid (B0_10.out.keep G11)
      have B1_11 := Lib.hid (B1_10.out.keep G11)
      have B2_11 := Lib.hid (B2_10.out.keep G11)
      have B3_11 : Hid (Blk (w10.alloc (.cells #[.int .i64 xn, .int .i64 xd] 23)) (w10.heap.size) (.int .i64 xn) (.int .i64 xd)) := Lib.hid (Blk.at00 _ _ _ _)
      generalize hw11 : (w10.alloc (.cells #[.int .i64 xn, .int .i64 xd] 23)) = w11 at *
      clear hw11 G11
      clear bs0 bx0 by0 bf0 be0 bs1 bx1 by1 bf1 be1 bs2 bx2 by2 bf2 be2
      obtain ⟨bs0, bx0, by0, bf0, be0⟩ := B0_11.out
      obtain ⟨bs1, bx1, by1, bf1, be1⟩ := B1_11.out
      obtain ⟨bs2, bx2, by2, bf2, be2⟩ := B2_11.out
      obtain ⟨bs3, bx3, by3, bf3, be3⟩ := B3_11.out
      refine (HA2.out _).mono ?_
      rintro e12 w12 ⟨rfl, hg⟩
      have T12 := Lib.hid (T11.out.trans (hg.mono T11.out.size))
      have B0_12 := Lib.hid (B0_11.out.below hg)
      have B1_12 := Lib.hid (B1_11.out.below hg)
      have B2_12 := Lib.hid (B2_11.out.below hg)
      have B3_12 := Lib.hid (B3_11.out.below hg)
      clear hg
      clear bs0 bx0 by0 bf0 be0 bs1 bx1 by1 bf1 be1 bs2 bx2 by2 bf2 be2 bs3 bx3 by3 bf3 be3
      obtain ⟨bs0, bx0, by0, bf0, be0⟩ := B0_12.out
      obtain ⟨bs1, bx1, by1, bf1, be1⟩ := B1_12.out
      obtain ⟨bs2, bx2, by2, bf2, be2⟩ := B2_12.out
      obtain ⟨bs3, bx3, by3, bf3, be3⟩ := B3_12.out
      go_wp2_with fail
      have G13 : Gr w12 (w12.alloc (.cells #[.int .i64 yn, .int .i64 yd] 23)) := (Gr.one _ _)
      have T13 := Lib.hid (T12.out.trans (G13.below.mono T12.out.size))
      have B0_13 := Lib.hid (B0_12.out.keep G13)
      have B1_13 := Lib.hid (B1_12.out.keep G13)
      have B2_13 := Lib.hid (B2_12.out.keep G13)
      have B3_13 := Lib.hid (B3_12.out.keep G13)
      have B4_13 : Hid (Blk (w12.alloc (.cells #[.int .i64 yn, .int .i64 yd] 23)) (w12.heap.size) (.int .i64 yn) (.int .i64 yd)) := Lib.hid (Blk.at00 _ _ _ _)
      generalize hw13 : (w12.alloc (.cells #[.int .i64 yn, .int .i64 yd] 23)) = w13 at *
      clear hw13 G13
      clear bs0 bx0 by0 bf0 be0 bs1 bx1 by1 bf1 be1 bs2 bx2 by2 bf2 be2 bs3 bx3 by3 bf3 be3
      obtain ⟨bs0, bx0, by0, bf0, be0⟩ := B0_13.out
      obtain ⟨bs1, bx1, by1, bf1, be1⟩ := B1_13.out
      obtain ⟨bs2, bx2, by2, bf2, be2⟩ := B2_13.out
      obtain ⟨bs3, bx3, by3, bf3, be3⟩ := B3_13.out
      obtain ⟨bs4, bx4, by4, bf4, be4⟩ := B4_13.out
      refine (HC5.out _).mono ?_
      rintro e14 w14 ⟨rfl, hg⟩
      replace hg := hg.below
      have T14 := Lib.hid (T13.out.trans (hg.mono T13.out.size))
      have B0_14 := Lib.hid (B0_13.out.below hg)
      have B1_14 := Lib.hid (B1_13.out.below hg)
      have B2_14 := Lib.hid (B2_13.out.below hg)
      have B3_14 := Lib.hid (B3_13.out.below hg)
      have B4_14 := Lib.hid (B4_13.out.below hg)
      clear hg
      clear bs0 bx0 by0 bf0 be0 bs1 bx1 by1 bf1 be1 bs2 bx2 by2 bf2 be2 bs3 bx3 by3 bf3 be3 bs4 bx4 by4 bf4 be4
      obtain ⟨bs0, bx0, by0, bf0, be0⟩ := B0_14.out
      obtain ⟨bs1, bx1, by1, bf1, be1⟩ := B1_14.out
      obtain ⟨bs2, bx2, by2, bf2, be2⟩ := B2_14.out
      obtain ⟨bs3, bx3, by3, bf3, be3⟩ := B3_14.out
      obtain ⟨bs4, bx4, by4, bf4, be4⟩ := B4_14.out
      go_wp2_with fail
      go_ret
      exact ⟨rfl, T14.out⟩
  · have hne := ne_bools (fun x => e0 (hz.2 x))
    clear hz
    by_cases e1 : k1 = 1
    · subst e1
      clear ht e0
      rcases hne with b1 | ⟨b1, b2⟩
      all_goals
        go_enter Tryd.func5, Tryd.ntmps5
        go_wp2_with fail
        have T0 := Lib.hid (Below.refl w.heap.size w)
        have G1 : Gr w (((w.alloc (.cells #[.int .i64 a, .int .i64 b] 23)).alloc (.cells #[.int .i64 c, .int .i64 d] 23)).alloc (.cells #[.int .i64 p, .int .i64 q] 23)) := (((Gr.one _ _).alloc _).alloc _)
        have T1 := Lib.hid (T0.out.trans (G1.below.mono T0.out.size))
        have B0_1 : Hid (Blk (((w.alloc (.cells #[.int .i64 a, .int .i64 b] 23)).alloc (.cells #[.int .i64 c, .int .i64 d] 23)).alloc (.cells #[.int .i64 p, .int .i64 q] 23)) (w.heap.size) (.int .i64 a) (.int .i64 b)) := Lib.hid (Blk.at02 _ _ _ _ _ _)
        have B1_1 : Hid (Blk (((w.alloc (.cells #[.int .i64 a, .int .i64 b] 23)).alloc (.cells #[.int .i64 c, .int .i64 d] 23)).alloc (.cells #[.int .i64 p, .int .i64 q] 23)) (w.heap.size + 1) (.int .i64 c) (.int .i64 d)) := Lib.hid (Blk.at11 _ _ _ _ _ _)
        have B2_1 : Hid (Blk (((w.alloc (.cells #[.int .i64 a, .int .i64 b] 23)).alloc (.cells #[.int .i64 c, .int .i64 d] 23)).alloc (.cells #[.int .i64 p, .int .i64 q] 23)) (w.heap.size + 1 + 1) (.int .i64 p) (.int .i64 q)) := Lib.hid (Blk.at20 _ _ _ _ _ _)
        generalize hw1 : (((w.alloc (.cells #[.int .i64 a, .int .i64 b] 23)).alloc (.cells #[.int .i64 c, .int .i64 d] 23)).alloc (.cells #[.int .i64 p, .int .i64 q] 23)) = w1 at *
        clear hw1 G1
        obtain ⟨bs0, bx0, by0, bf0, be0⟩ := B0_1.out
        obtain ⟨bs1, bx1, by1, bf1, be1⟩ := B1_1.out
        obtain ⟨bs2, bx2, by2, bf2, be2⟩ := B2_1.out
        refine (head_any _ (HL.out.keep T1.out)).mono ?_
        rintro e2 w2 ⟨rfl, hg⟩
        have T2 := Lib.hid (T1.out.trans (hg.mono T1.out.size))
        have B0_2 := Lib.hid (B0_1.out.below hg)
        have B1_2 := Lib.hid (B1_1.out.below hg)
        have B2_2 := Lib.hid (B2_1.out.below hg)
        clear hg
        clear bs0 bx0 by0 bf0 be0 bs1 bx1 by1 bf1 be1 bs2 bx2 by2 bf2 be2
        obtain ⟨bs0, bx0, by0, bf0, be0⟩ := B0_2.out
        obtain ⟨bs1, bx1, by1, bf1, be1⟩ := B1_2.out
        obtain ⟨bs2, bx2, by2, bf2, be2⟩ := B2_2.out
        go_wp2_with fail
        refine (HV1.out _).mono ?_
        rintro e3 w3 ⟨rfl, hg⟩
        replace hg := hg.below
        have T3 := Lib.hid (T2.out.trans (hg.mono T2.out.size))
        have B0_3 := Lib.hid (B0_2.out.below hg)
        have B1_3 := Lib.hid (B1_2.out.below hg)
        have B2_3 := Lib.hid (B2_2.out.below hg)
        clear hg
        clear bs0 bx0 by0 bf0 be0 bs1 bx1 by1 bf1 be1 bs2 bx2 by2 bf2 be2
        obtain ⟨bs0, bx0, by0, bf0, be0⟩ := B0_3.out
        obtain ⟨bs1, bx1, by1, bf1, be1⟩ := B1_3.out
        obtain ⟨bs2, bx2, by2, bf2, be2⟩ := B2_3.out
        go_wp2_with fail
        refine (HV2.out _).mono ?_
        rintro e4 w4 ⟨rfl, hg⟩
        replace hg := hg.below
        have T4 := Lib.hid (T3.out.trans (hg.mono T3.out.size))
        have B0_4 := Lib.hid (B0_3.out.below hg)
        have B1_4 := Lib.hid (B1_3.out.below hg)
        have B2_4 := Lib.hid (B2_3.out.below hg)
        clear hg
        clear bs0 bx0 by0 bf0 be0 bs1 bx1 by1 bf1 be1 bs2 bx2 by2 bf2 be2
        obtain ⟨bs0, bx0, by0, bf0, be0⟩ := B0_4.out
        obtain ⟨bs1, bx1, by1, bf1, be1⟩ := B1_4.out
        obtain ⟨bs2, bx2, by2, bf2, be2⟩ := B2_4.out
        go_wp2_with fail
        refine (HV3.out _).mono ?_
        rintro e5 w5 ⟨rfl, hg⟩
        replace hg := hg.below
        have T5 := Lib.hid (T4.out.trans (hg.mono T4.out.size))
        have B0_5 := Lib.hid (B0_4.out.below hg)
        have B1_5 := Lib.hid (B1_4.out.below hg)
        have B2_5 := Lib.hid (B2_4.out.below hg)
        clear hg
        clear bs0 bx0 by0 bf0 be0 bs1 bx1 by1 bf1 be1 bs2 bx2 by2 bf2 be2
        obtain ⟨bs0, bx0, by0, bf0, be0⟩ := B0_5.out
        obtain ⟨bs1, bx1, by1, bf1, be1⟩ := B1_5.out
        obtain ⟨bs2, bx2, by2, bf2, be2⟩ := B2_5.out
        go_wp2_with fail
        refine (HC1.out _).mono ?_
        rintro e6 w6 ⟨rfl, hg⟩
        replace hg := hg.below
        have T6 := Lib.hid (T5.out.trans (hg.mono T5.out.size))
        have B0_6 := Lib.hid (B0_5.out.below hg)
        have B1_6 := Lib.hid (B1_5.out.below hg)
        have B2_6 := Lib.hid (B2_5.out.below hg)
        clear hg
        clear bs0 bx0 by0 bf0 be0 bs1 bx1 by1 bf1 be1 bs2 bx2 by2 bf2 be2
        obtain ⟨bs0, bx0, by0, bf0, be0⟩ := B0_6.out
        obtain ⟨bs1, bx1, by1, bf1, be1⟩ := B1_6.out
        obtain ⟨bs2, bx2, by2, bf2, be2⟩ := B2_6.out
        go_wp2_with fail
        refine (HC2.out _).mono ?_
        rintro e7 w7 ⟨rfl, hg⟩
        replace hg := hg.below
        have T7 := Lib.hid (T6.out.trans (hg.mono T6.out.size))
        have B0_7 := Lib.hid (B0_6.out.below hg)
        have B1_7 := Lib.hid (B1_6.out.below hg)
        have B2_7 := Lib.hid (B2_6.out.below hg)
        clear hg
        clear bs0 bx0 by0 bf0 be0 bs1 bx1 by1 bf1 be1 bs2 bx2 by2 bf2 be2
        obtain ⟨bs0, bx0, by0, bf0, be0⟩ := B0_7.out
        obtain ⟨bs1, bx1, by1, bf1, be1⟩ := B1_7.out
        obtain ⟨bs2, bx2, by2, bf2, be2⟩ := B2_7.out
        go_wp2_with fail
        refine (HC3.out _).mono ?_
        rintro e8 w8 ⟨rfl, hg⟩
        replace hg := hg.below
        have T8 := Lib.hid (T7.out.trans (hg.mono T7.out.size))
        have B0_8 := Lib.hid (B0_7.out.below hg)
        have B1_8 := Lib.hid (B1_7.out.below hg)
        have B2_8 := Lib.hid (B2_7.out.below hg)
        clear hg
        clear bs0 bx0 by0 bf0 be0 bs1 bx1 by1 bf1 be1 bs2 bx2 by2 bf2 be2
        obtain ⟨bs0, bx0, by0, bf0, be0⟩ := B0_8.out
        obtain ⟨bs1, bx1, by1, bf1, be1⟩ := B1_8.out
        obtain ⟨bs2, bx2, by2, bf2, be2⟩ := B2_8.out
        go_wp2_with fail
        refine (HC4.out _).mono ?_
        rintro e9 w9 ⟨rfl, hg⟩
        replace hg := hg.below
        have T9 := Lib.hid (T8.out.trans (hg.mono T8.out.size))
        have B0_9 := Lib.hid (B0_8.out.below hg)
        have B1_9 := Lib.hid (B1_8.out.below hg)
        have B2_9 := Lib.hid (B2_8.out.below hg)
        clear hg
        clear bs0 bx0 by0 bf0 be0 bs1 bx1 by1 bf1 be1 bs2 bx2 by2 bf2 be2
        obtain ⟨bs0, bx0, by0, bf0, be0⟩ := B0_9.out
        obtain ⟨bs1, bx1, by1, bf1, be1⟩ := B1_9.out
        obtain ⟨bs2, bx2, by2, bf2, be2⟩ := B2_9.out
        go_wp2_with fail
        refine (HA1.out _).mono ?_
        rintro e10 w10 ⟨rfl, hg⟩
        have T10 := Lib.hid (T9.out.trans (hg.mono T9.out.size))
        have B0_10 := Lib.hid (B0_9.out.below hg)
        have B1_10 := Lib.hid (B1_9.out.below hg)
        have B2_10 := Lib.hid (B2_9.out.below hg)
        clear hg
        clear bs0 bx0 by0 bf0 be0 bs1 bx1 by1 bf1 be1 bs2 bx2 by2 bf2 be2
        obtain ⟨bs0, bx0, by0, bf0, be0⟩ := B0_10.out
        obtain ⟨bs1, bx1, by1, bf1, be1⟩ := B1_10.out
        obtain ⟨bs2, bx2, by2, bf2, be2⟩ := B2_10.out
        go_wp2_with fail
        have G11 : Gr w10 (w10.alloc (.cells #[.int .i64 xn, .int .i64 xd] 23)) := (Gr.one _ _)
        have T11 := Lib.hid (T10.out.trans (G11.below.mono T10.out.size))
        have B0_11 := Lib.hid (B0_10.out.keep G11)
        have B1_11 := Lib.hid (B1_10.out.keep G11)
        have B2_11 := Lib.hid (B2_10.out.keep G11)
        have B3_11 : Hid (Blk (w10.alloc (.cells #[.int .i64 xn, .int .i64 xd] 23)) (w10.heap.size) (.int .i64 xn) (.int .i64 xd)) := Lib.hid (Blk.at00 _ _ _ _)
        generalize hw11 : (w10.alloc (.cells #[.int .i64 xn, .int .i64 xd] 23)) = w11 at *
        clear hw11 G11
        clear bs0 bx0 by0 bf0 be0 bs1 bx1 by1 bf1 be1 bs2 bx2 by2 bf2 be2
        obtain ⟨bs0, bx0, by0, bf0, be0⟩ := B0_11.out
        obtain ⟨bs1, bx1, by1, bf1, be1⟩ := B1_11.out
        obtain ⟨bs2, bx2, by2, bf2, be2⟩ := B2_11.out
        obtain ⟨bs3, bx3, by3, bf3, be3⟩ := B3_11.out
        refine (HA2.out _).mono ?_
        rintro e12 w12 ⟨rfl, hg⟩
        have T12 := Lib.hid (T11.out.trans (hg.mono T11.out.size))
        have B0_12 := Lib.hid (B0_11.out.below hg)
        have B1_12 := Lib.hid (B1_11.out.below hg)
        have B2_12 := Lib.hid (B2_11.out.below hg)
        have B3_12 := Lib.hid (B3_11.out.below hg)
        clear hg
        clear bs0 bx0 by0 bf0 be0 bs1 bx1 by1 bf1 be1 bs2 bx2 by2 bf2 be2 bs3 bx3 by3 bf3 be3
        obtain ⟨bs0, bx0, by0, bf0, be0⟩ := B0_12.out
        obtain ⟨bs1, bx1, by1, bf1, be1⟩ := B1_12.out
        obtain ⟨bs2, bx2, by2, bf2, be2⟩ := B2_12.out
        obtain ⟨bs3, bx3, by3, bf3, be3⟩ := B3_12.out
        go_wp2_with fail
        have G13 : Gr w12 (w12.alloc (.cells #[.int .i64 yn, .int .i64 yd] 23)) := (Gr.one _ _)
        have T13 := Lib.hid (T12.out.trans (G13.below.mono T12.out.size))
        have B0_13 := Lib.hid (B0_12.out.keep G13)
        have B1_13 := Lib.hid (B1_12.out.keep G13)
        have B2_13 := Lib.hid (B2_12.out.keep G13)
        have B3_13 := Lib.hid (B3_12.out.keep G13)
        have B4_13 : Hid (Blk (w12.alloc (.cells #[.int .i64 yn, .int .i64 yd] 23)) (w12.heap.size) (.int .i64 yn) (.int .i64 yd)) := Lib.hid (Blk.at00 _ _ _ _)
        generalize hw13 : (w12.alloc (.cells #[.int .i64 yn, .int .i64 yd] 23)) = w13 at *
        clear hw13 G13
        clear bs0 bx0 by0 bf0 be0 bs1 bx1 by1 bf1 be1 bs2 bx2 by2 bf2 be2 bs3 bx3 by3 bf3 be3
        obtain ⟨bs0, bx0, by0, bf0, be0⟩ := B0_13.out
        obtain ⟨bs1, bx1, by1, bf1, be1⟩ := B1_13.out
        obtain ⟨bs2, bx2, by2, bf2, be2⟩ := B2_13.out
        obtain ⟨bs3, bx3, by3, bf3, be3⟩ := B3_13.out
        obtain ⟨bs4, bx4, by4, bf4, be4⟩ := B4_13.out
        refine (HC5.out _).mono ?_
        rintro e14 w14 ⟨rfl, hg⟩
        replace hg := hg.below
        have T14 := Lib.hid (T13.out.trans (hg.mono T13.out.size))
        have B0_14 := Lib.hid (B0_13.out.below hg)
        have B1_14 := Lib.hid (B1_13.out.below hg)
        have B2_14 := Lib.hid (B2_13.out.below hg)
        have B3_14 := Lib.hid (B3_13.out.below hg)
        have B4_14 := Lib.hid (B4_13.out.below hg)
        clear hg
        clear bs0 bx0 by0 bf0 be0 bs1 bx1 by1 bf1 be1 bs2 bx2 by2 bf2 be2 bs3 bx3 by3 bf3 be3 bs4 bx4 by4 bf4 be4
        obtain ⟨bs0, bx0, by0, bf0, be0⟩ := B0_14.out
        obtain ⟨bs1, bx1, by1, bf1, be1⟩ := B1_14.out
        obtain ⟨bs2, bx2, by2, bf2, be2⟩ := B2_14.out
        obtain ⟨bs3, bx3, by3, bf3, be3⟩ := B3_14.out
        obtain ⟨bs4, bx4, by4, bf4, be4⟩ := B4_14.out
        go_wp2_with fail
        go_ret
        exact ⟨rfl, T14.out⟩
    · obtain rfl : k1 = -1 := by omega
      clear e0 e1
      by_cases e3 : k3 ≤ 0
      · have e4 := (ht (by decide) e3).2 (by decide)
        clear ht
        rcases hne with b1 | ⟨b1, b2⟩
        all_goals
          go_enter Tryd.func5, Tryd.ntmps5
          go_wp2_with fail
          have T0 := Lib.hid (Below.refl w.heap.size w)
          have G1 : Gr w (((w.alloc (.cells #[.int .i64 a, .int .i64 b] 23)).alloc (.cells #[.int .i64 c, .int .i64 d] 23)).alloc (.cells #[.int .i64 p, .int .i64 q] 23)) := (((Gr.one _ _).alloc _).alloc _)
          have T1 := Lib.hid (T0.out.trans (G1.below.mono T0.out.size))
          have B0_1 : Hid (Blk (((w.alloc (.cells #[.int .i64 a, .int .i64 b] 23)).alloc (.cells #[.int .i64 c, .int .i64 d] 23)).alloc (.cells #[.int .i64 p, .int .i64 q] 23)) (w.heap.size) (.int .i64 a) (.int .i64 b)) := Lib.hid (Blk.at02 _ _ _ _ _ _)
          have B1_1 : Hid (Blk (((w.alloc (.cells #[.int .i64 a, .int .i64 b] 23)).alloc (.cells #[.int .i64 c, .int .i64 d] 23)).alloc (.cells #[.int .i64 p, .int .i64 q] 23)) (w.heap.size + 1) (.int .i64 c) (.int .i64 d)) := Lib.hid (Blk.at11 _ _ _ _ _ _)
          have B2_1 : Hid (Blk (((w.alloc (.cells #[.int .i64 a, .int .i64 b] 23)).alloc (.cells #[.int .i64 c, .int .i64 d] 23)).alloc (.cells #[.int .i64 p, .int .i64 q] 23)) (w.heap.size + 1 + 1) (.int .i64 p) (.int .i64 q)) := Lib.hid (Blk.at20 _ _ _ _ _ _)
          generalize hw1 : (((w.alloc (.cells #[.int .i64 a, .int .i64 b] 23)).alloc (.cells #[.int .i64 c, .int .i64 d] 23)).alloc (.cells #[.int .i64 p, .int .i64 q] 23)) = w1 at *
          clear hw1 G1
          obtain ⟨bs0, bx0, by0, bf0, be0⟩ := B0_1.out
          obtain ⟨bs1, bx1, by1, bf1, be1⟩ := B1_1.out
          obtain ⟨bs2, bx2, by2, bf2, be2⟩ := B2_1.out
          refine (head_any _ (HL.out.keep T1.out)).mono ?_
          rintro e2 w2 ⟨rfl, hg⟩
          have T2 := Lib.hid (T1.out.trans (hg.mono T1.out.size))
          have B0_2 := Lib.hid (B0_1.out.below hg)
          have B1_2 := Lib.hid (B1_1.out.below hg)
          have B2_2 := Lib.hid (B2_1.out.below hg)
          clear hg
          clear bs0 bx0 by0 bf0 be0 bs1 bx1 by1 bf1 be1 bs2 bx2 by2 bf2 be2
          obtain ⟨bs0, bx0, by0, bf0, be0⟩ := B0_2.out
          obtain ⟨bs1, bx1, by1, bf1, be1⟩ := B1_2.out
          obtain ⟨bs2, bx2, by2, bf2, be2⟩ := B2_2.out
          go_wp2_with fail
          refine (HV1.out _).mono ?_
          rintro e3 w3 ⟨rfl, hg⟩
          replace hg := hg.below
          have T3 := Lib.hid (T2.out.trans (hg.mono T2.out.size))
          have B0_3 := Lib.hid (B0_2.out.below hg)
          have B1_3 := Lib.hid (B1_2.out.below hg)
          have B2_3 := Lib.hid (B2_2.out.below hg)
          clear hg
          clear bs0 bx0 by0 bf0 be0 bs1 bx1 by1 bf1 be1 bs2 bx2 by2 bf2 be2
          obtain ⟨bs0, bx0, by0, bf0, be0⟩ := B0_3.out
          obtain ⟨bs1, bx1, by1, bf1, be1⟩ := B1_3.out
          obtain ⟨bs2, bx2, by2, bf2, be2⟩ := B2_3.out
          go_wp2_with fail
          refine (HV2.out _).mono ?_
          rintro e4 w4 ⟨rfl, hg⟩
          replace hg := hg.below
          have T4 := Lib.hid (T3.out.trans (hg.mono T3.out.size))
          have B0_4 := Lib.hid (B0_3.out.below hg)
          have B1_4 := Lib.hid (B1_3.out.below hg)
          have B2_4 := Lib.hid (B2_3.out.below hg)
          clear hg
          clear bs0 bx0 by0 bf0 be0 bs1 bx1 by1 bf1 be1 bs2 bx2 by2 bf2 be2
          obtain ⟨bs0, bx0, by0, bf0, be0⟩ := B0_4.out
          obtain ⟨bs1, bx1, by1, bf1, be1⟩ := B1_4.out
          obtain ⟨bs2, bx2, by2, bf2, be2⟩ := B2_4.out
          go_wp2_with fail
          refine (HV3.out _).mono ?_
          rintro e5 w5 ⟨rfl, hg⟩
          replace hg := hg.below
          have T5 := Lib.hid (T4.out.trans (hg.mono T4.out.size))
          have B0_5 := Lib.hid (B0_4.out.below hg)
          have B1_5 := Lib.hid (B1_4.out.below hg)
          have B2_5 := Lib.hid (B2_4.out.below hg)
          clear hg
          clear bs0 bx0 by0 bf0 be0 bs1 bx1 by1 bf1 be1 bs2 bx2 by2 bf2 be2
          obtain ⟨bs0, bx0, by0, bf0, be0⟩ := B0_5.out
          obtain ⟨bs1, bx1, by1, bf1, be1⟩ := B1_5.out
          obtain ⟨bs2, bx2, by2, bf2, be2⟩ := B2_5.out
          go_wp2_with fail
          refine (HC1.out _).mono ?_
          rintro e6 w6 ⟨rfl, hg⟩
          replace hg := hg.below
          have T6 := Lib.hid (T5.out.trans (hg.mono T5.out.size))
          have B0_6 := Lib.hid (B0_5.out.below hg)
          have B1_6 := Lib.hid (B1_5.out.below hg)
          have B2_6 := Lib.hid (B2_5.out.below hg)
          clear hg
          clear bs0 bx0 by0 bf0 be0 bs1 bx1 by1 bf1 be1 bs2 bx2 by2 bf2 be2
          obtain ⟨bs0, bx0, by0, bf0, be0⟩ := B0_6.out
          obtain ⟨bs1, bx1, by1, bf1, be1⟩ := B1_6.out
          obtain ⟨bs2, bx2, by2, bf2, be2⟩ := B2_6.out
          go_wp2_with fail
          refine (HC2.out _).mono ?_
          rintro e7 w7 ⟨rfl, hg⟩
          replace hg := hg.below
          have T7 := Lib.hid (T6.out.trans (hg.mono T6.out.size))
          have B0_7 := Lib.hid (B0_6.out.below hg)
          have B1_7 := Lib.hid (B1_6.out.below hg)
          have B2_7 := Lib.hid (B2_6.out.below hg)
          clear hg
          clear bs0 bx0 by0 bf0 be0 bs1 bx1 by1 bf1 be1 bs2 bx2 by2 bf2 be2
          obtain ⟨bs0, bx0, by0, bf0, be0⟩ := B0_7.out
          obtain ⟨bs1, bx1, by1, bf1, be1⟩ := B1_7.out
          obtain ⟨bs2, bx2, by2, bf2, be2⟩ := B2_7.out
          go_wp2_with fail
          refine (HC3.out _).mono ?_
          rintro e8 w8 ⟨rfl, hg⟩
          replace hg := hg.below
          have T8 := Lib.hid (T7.out.trans (hg.mono T7.out.size))
          have B0_8 := Lib.hid (B0_7.out.below hg)
          have B1_8 := Lib.hid (B1_7.out.below hg)
          have B2_8 := Lib.hid (B2_7.out.below hg)
          clear hg
          clear bs0 bx0 by0 bf0 be0 bs1 bx1 by1 bf1 be1 bs2 bx2 by2 bf2 be2
          obtain ⟨bs0, bx0, by0, bf0, be0⟩ := B0_8.out
          obtain ⟨bs1, bx1, by1, bf1, be1⟩ := B1_8.out
          obtain ⟨bs2, bx2, by2, bf2, be2⟩ := B2_8.out
          go_wp2_with fail
          refine (HC4.out _).mono ?_
          rintro e9 w9 ⟨rfl, hg⟩
          replace hg := hg.below
          have T9 := Lib.hid (T8.out.trans (hg.mono T8.out.size))
          have B0_9 := Lib.hid (B0_8.out.below hg)
          have B1_9 := Lib.hid (B1_8.out.below hg)
          have B2_9 := Lib.hid (B2_8.out.below hg)
          clear hg
          clear bs0 bx0 by0 bf0 be0 bs1 bx1 by1 bf1 be1 bs2 bx2 by2 bf2 be2
          obtain ⟨bs0, bx0, by0, bf0, be0⟩ := B0_9.out
          obtain ⟨bs1, bx1, by1, bf1, be1⟩ := B1_9.out
          obtain ⟨bs2, bx2, by2, bf2, be2⟩ := B2_9.out
          go_wp2_with fail
          refine (HA1.out _).mono ?_
          rintro e10 w10 ⟨rfl, hg⟩
          have T10 := Lib.hid (T9.out.trans (hg.mono T9.out.size))
          have B0_10 := Lib.hid (B0_9.out.below hg)
          have B1_10 := Lib.hid (B1_9.out.below hg)
          have B2_10 := Lib.hid (B2_9.out.below hg)
          clear hg
          clear bs0 bx0 by0 bf0 be0 bs1 bx1 by1 bf1 be1 bs2 bx2 by2 bf2 be2
          obtain ⟨bs0, bx0, by0, bf0, be0⟩ := B0_10.out
          obtain ⟨bs1, bx1, by1, bf1, be1⟩ := B1_10.out
          obtain ⟨bs2, bx2, by2, bf2, be2⟩ := B2_10.out
          go_wp2_with fail
          have G11 : Gr w10 (w10.alloc (.cells #[.int .i64 xn, .int .i64 xd] 23)) := (Gr.one _ _)
          have T11 := Lib.hid (T10.out.trans (G11.below.mono T10.out.size))
          have B0_11 := Lib.hid (B0_10.out.keep G11)
          have B1_11 := Lib.hid (B1_10.out.keep G11)
          have B2_11 := Lib.hid (B2_10.out.keep G11)
          have B3_11 : Hid (Blk (w10.alloc (.cells #[.int .i64 xn, .int .i64 xd] 23)) (w10.heap.size) (.int .i64 xn) (.int .i64 xd)) := Lib.hid (Blk.at00 _ _ _ _)
          generalize hw11 : (w10.alloc (.cells #[.int .i64 xn, .int .i64 xd] 23)) = w11 at *
          clear hw11 G11
          clear bs0 bx0 by0 bf0 be0 bs1 bx1 by1 bf1 be1 bs2 bx2 by2 bf2 be2
          obtain ⟨bs0, bx0, by0, bf0, be0⟩ := B0_11.out
          obtain ⟨bs1, bx1, by1, bf1, be1⟩ := B1_11.out
          obtain ⟨bs2, bx2, by2, bf2, be2⟩ := B2_11.out
          obtain ⟨bs3, bx3, by3, bf3, be3⟩ := B3_11.out
          refine (HA2.out _).mono ?_
          rintro e12 w12 ⟨rfl, hg⟩
          have T12 := Lib.hid (T11.out.trans (hg.mono T11.out.size))
          have B0_12 := Lib.hid (B0_11.out.below hg)
          have B1_12 := Lib.hid (B1_11.out.below hg)
          have B2_12 := Lib.hid (B2_11.out.below hg)
          have B3_12 := Lib.hid (B3_11.out.below hg)
          clear hg
          clear bs0 bx0 by0 bf0 be0 bs1 bx1 by1 bf1 be1 bs2 bx2 by2 bf2 be2 bs3 bx3 by3 bf3 be3
          obtain ⟨bs0, bx0, by0, bf0, be0⟩ := B0_12.out
          obtain ⟨bs1, bx1, by1, bf1, be1⟩ := B1_12.out
          obtain ⟨bs2, bx2, by2, bf2, be2⟩ := B2_12.out
          obtain ⟨bs3, bx3, by3, bf3, be3⟩ := B3_12.out
          go_wp2_with fail
          have G13 : Gr w12 (w12.alloc (.cells #[.int .i64 yn, .int .i64 yd] 23)) := (Gr.one _ _)
          have T13 := Lib.hid (T12.out.trans (G13.below.mono T12.out.size))
          have B0_13 := Lib.hid (B0_12.out.keep G13)
          have B1_13 := Lib.hid (B1_12.out.keep G13)
          have B2_13 := Lib.hid (B2_12.out.keep G13)
          have B3_13 := Lib.hid (B3_12.out.keep G13)
          have B4_13 : Hid (Blk (w12.alloc (.cells #[.int .i64 yn, .int .i64 yd] 23)) (w12.heap.size) (.int .i64 yn) (.int .i64 yd)) := Lib.hid (Blk.at00 _ _ _ _)
          generalize hw13 : (w12.alloc (.cells #[.int .i64 yn, .int .i64 yd] 23)) = w13 at *
          clear hw13 G13
          clear bs0 bx0 by0 bf0 be0 bs1 bx1 by1 bf1 be1 bs2 bx2 by2 bf2 be2 bs3 bx3 by3 bf3 be3
          obtain ⟨bs0, bx0, by0, bf0, be0⟩ := B0_13.out
          obtain ⟨bs1, bx1, by1, bf1, be1⟩ := B1_13.out
          obtain ⟨bs2, bx2, by2, bf2, be2⟩ := B2_13.out
          obtain ⟨bs3, bx3, by3, bf3, be3⟩ := B3_13.out
          obtain ⟨bs4, bx4, by4, bf4, be4⟩ := B4_13.out
          refine (HC5.out _).mono ?_
          rintro e14 w14 ⟨rfl, hg⟩
          replace hg := hg.below
          have T14 := Lib.hid (T13.out.trans (hg.mono T13.out.size))
          have B0_14 := Lib.hid (B0_13.out.below hg)
          have B1_14 := Lib.hid (B1_13.out.below hg)
          have B2_14 := Lib.hid (B2_13.out.below hg)
          have B3_14 := Lib.hid (B3_13.out.below hg)
          have B4_14 := Lib.hid (B4_13.out.below hg)
          clear hg
          clear bs0 bx0 by0 bf0 be0 bs1 bx1 by1 bf1 be1 bs2 bx2 by2 bf2 be2 bs3 bx3 by3 bf3 be3 bs4 bx4 by4 bf4 be4
          obtain ⟨bs0, bx0, by0, bf0, be0⟩ := B0_14.out
          obtain ⟨bs1, bx1, by1, bf1, be1⟩ := B1_14.out
          obtain ⟨bs2, bx2, by2, bf2, be2⟩ := B2_14.out
          obtain ⟨bs3, bx3, by3, bf3, be3⟩ := B3_14.out
          obtain ⟨bs4, bx4, by4, bf4, be4⟩ := B4_14.out
          go_wp2_with fail
          go_ret
          exact ⟨rfl, T14.out⟩
      · clear ht
        rcases hne with b1 | ⟨b1, b2⟩
        all_goals
          go_enter Tryd.func5, Tryd.ntmps5
          go_wp2_with fail
          have T0 := Lib.hid (Below.refl w.heap.size w)
          have G1 : Gr w (((w.alloc (.cells #[.int .i64 a, .int .i64 b] 23)).alloc (.cells #[.int .i64 c, .int .i64 d] 23)).alloc (.cells #[.int .i64 p, .int .i64 q] 23)) := (((Gr.one _ _).alloc _).alloc _)
          have T1 := Lib.hid (T0.out.trans (G1.below.mono T0.out.size))
          have B0_1 : Hid (Blk (((w.alloc (.cells #[.int .i64 a, .int .i64 b] 23)).alloc (.cells #[.int .i64 c, .int .i64 d] 23)).alloc (.cells #[.int .i64 p, .int .i64 q] 23)) (w.heap.size) (.int .i64 a) (.int .i64 b)) := Lib.hid (Blk.at02 _ _ _ _ _ _)
          have B1_1 : Hid (Blk (((w.alloc (.cells #[.int .i64 a, .int .i64 b] 23)).alloc (.cells #[.int .i64 c, .int .i64 d] 23)).alloc (.cells #[.int .i64 p, .int .i64 q] 23)) (w.heap.size + 1) (.int .i64 c) (.int .i64 d)) := Lib.hid (Blk.at11 _ _ _ _ _ _)
          have B2_1 : Hid (Blk (((w.alloc (.cells #[.int .i64 a, .int .i64 b] 23)).alloc (.cells #[.int .i64 c, .int .i64 d] 23)).alloc (.cells #[.int .i64 p, .int .i64 q] 23)) (w.heap.size + 1 + 1) (.int .i64 p) (.int .i64 q)) := Lib.hid (Blk.at20 _ _ _ _ _ _)
          generalize hw1 : (((w.alloc (.cells #[.int .i64 a, .int .i64 b] 23)).alloc (.cells #[.int .i64 c, .int .i64 d] 23)).alloc (.cells #[.int .i64 p, .int .i64 q] 23)) = w1 at *
          clear hw1 G1
          obtain ⟨bs0, bx0, by0, bf0, be0⟩ := B0_1.out
          obtain ⟨bs1, bx1, by1, bf1, be1⟩ := B1_1.out
          obtain ⟨bs2, bx2, by2, bf2, be2⟩ := B2_1.out
          refine (head_any _ (HL.out.keep T1.out)).mono ?_
          rintro e2 w2 ⟨rfl, hg⟩
          have T2 := Lib.hid (T1.out.trans (hg.mono T1.out.size))
          have B0_2 := Lib.hid (B0_1.out.below hg)
          have B1_2 := Lib.hid (B1_1.out.below hg)
          have B2_2 := Lib.hid (B2_1.out.below hg)
          clear hg
          clear bs0 bx0 by0 bf0 be0 bs1 bx1 by1 bf1 be1 bs2 bx2 by2 bf2 be2
          obtain ⟨bs0, bx0, by0, bf0, be0⟩ := B0_2.out
          obtain ⟨bs1, bx1, by1, bf1, be1⟩ := B1_2.out
          obtain ⟨bs2, bx2, by2, bf2, be2⟩ := B2_2.out
          go_wp2_with fail
          refine (HV1.out _).mono ?_
          rintro e3 w3 ⟨rfl, hg⟩
          replace hg := hg.below
          have T3 := Lib.hid (T2.out.trans (hg.mono T2.out.size))
          have B0_3 := Lib.hid (B0_2.out.below hg)
          have B1_3 := Lib.hid (B1_2.out.below hg)
          have B2_3 := Lib.hid (B2_2.out.below hg)
          clear hg
          clear bs0 bx0 by0 bf0 be0 bs1 bx1 by1 bf1 be1 bs2 bx2 by2 bf2 be2
          obtain ⟨bs0, bx0, by0, bf0, be0⟩ := B0_3.out
          obtain ⟨bs1, bx1, by1, bf1, be1⟩ := B1_3.out
          obtain ⟨bs2, bx2, by2, bf2, be2⟩ := B2_3.out
          go_wp2_with fail
          refine (HV2.out _).mono ?_
          rintro e4 w4 ⟨rfl, hg⟩
          replace hg := hg.below
          have T4 := Lib.hid (T3.out.trans (hg.mono T3.out.size))
          have B0_4 := Lib.hid (B0_3.out.below hg)
          have B1_4 := Lib.hid (B1_3.out.below hg)
          have B2_4 := Lib.hid (B2_3.out.below hg)
          clear hg
          clear bs0 bx0 by0 bf0 be0 bs1 bx1 by1 bf1 be1 bs2 bx2 by2 bf2 be2
          obtain ⟨bs0, bx0, by0, bf0, be0⟩ := B0_4.out
          obtain ⟨bs1, bx1, by1, bf1, be1⟩ := B1_4.out
          obtain ⟨bs2, bx2, by2, bf2, be2⟩ := B2_4.out
          go_wp2_with fail
          refine (HV3.out _).mono ?_
          rintro e5 w5 ⟨rfl, hg⟩
          replace hg := hg.below
          have T5 := Lib.hid (T4.out.trans (hg.mono T4.out.size))
          have B0_5 := Lib.hid (B0_4.out.below hg)
          have B1_5 := Lib.hid (B1_4.out.below hg)
          have B2_5 := Lib.hid (B2_4.out.below hg)
          clear hg
          clear bs0 bx0 by0 bf0 be0 bs1 bx1 by1 bf1 be1 bs2 bx2 by2 bf2 be2
          obtain ⟨bs0, bx0, by0, bf0, be0⟩ := B0_5.out
          obtain ⟨bs1, bx1, by1, bf1, be1⟩ := B1_5.out
          obtain ⟨bs2, bx2, by2, bf2, be2⟩ := B2_5.out
          go_wp2_with fail
          refine (HC1.out _).mono ?_
          rintro e6 w6 ⟨rfl, hg⟩
          replace hg := hg.below
          have T6 := Lib.hid (T5.out.trans (hg.mono T5.out.size))
          have B0_6 := Lib.hid (B0_5.out.below hg)
          have B1_6 := Lib.hid (B1_5.out.below hg)
          have B2_6 := Lib.hid (B2_5.out.below hg)
          clear hg
          clear bs0 bx0 by0 bf0 be0 bs1 bx1 by1 bf1 be1 bs2 bx2 by2 bf2 be2
          obtain ⟨bs0, bx0, by0, bf0, be0⟩ := B0_6.out
          obtain ⟨bs1, bx1, by1, bf1, be1⟩ := B1_6.out
          obtain ⟨bs2, bx2, by2, bf2, be2⟩ := B2_6.out
          go_wp2_with fail
          refine (HC2.out _).mono ?_
          rintro e7 w7 ⟨rfl, hg⟩
          replace hg := hg.below
          have T7 := Lib.hid (T6.out.trans (hg.mono T6.out.size))
          have B0_7 := Lib.hid (B0_6.out.below hg)
          have B1_7 := Lib.hid (B1_6.out.below hg)
          have B2_7 := Lib.hid (B2_6.out.below hg)
          clear hg
          clear bs0 bx0 by0 bf0 be0 bs1 bx1 by1 bf1 be1 bs2 bx2 by2 bf2 be2
          obtain ⟨bs0, bx0, by0, bf0, be0⟩ := B0_7.out
          obtain ⟨bs1, bx1, by1, bf1, be1⟩ := B1_7.out
          obtain ⟨bs2, bx2, by2, bf2, be2⟩ := B2_7.out
          go_wp2_with fail
          refine (HC3.out _).mono ?_
          rintro e8 w8 ⟨rfl, hg⟩
          replace hg := hg.below
          have T8 := Lib.hid (T7.out.trans (hg.mono T7.out.size))
          have B0_8 := Lib.hid (B0_7.out.below hg)
          have B1_8 := Lib.hid (B1_7.out.below hg)
          have B2_8 := Lib.hid (B2_7.out.below hg)
          clear hg
          clear bs0 bx0 by0 bf0 be0 bs1 bx1 by1 bf1 be1 bs2 bx2 by2 bf2 be2
          obtain ⟨bs0, bx0, by0, bf0, be0⟩ := B0_8.out
          obtain ⟨bs1, bx1, by1, bf1, be1⟩ := B1_8.out
          obtain ⟨bs2, bx2, by2, bf2, be2⟩ := B2_8.out
          go_wp2_with fail
          refine (HC4.out _).mono ?_
          rintro e9 w9 ⟨rfl, hg⟩
          replace hg := hg.below
          have T9 := Lib.hid (T8.out.trans (hg.mono T8.out.size))
          have B0_9 := Lib.hid (B0_8.out.below hg)
          have B1_9 := Lib.hid (B1_8.out.below hg)
          have B2_9 := Lib.hid (B2_8.out.below hg)
          clear hg
          clear bs0 bx0 by0 bf0 be0 bs1 bx1 by1 bf1 be1 bs2 bx2 by2 bf2 be2
          obtain ⟨bs0, bx0, by0, bf0, be0⟩ := B0_9.out
          obtain ⟨bs1, bx1, by1, bf1, be1⟩ := B1_9.out
          obtain ⟨bs2, bx2, by2, bf2, be2⟩ := B2_9.out
          go_wp2_with fail
          refine (HA1.out _).mono ?_
          rintro e10 w10 ⟨rfl, hg⟩
          have T10 := Lib.hid (T9.out.trans (hg.mono T9.out.size))
          have B0_10 := Lib.hid (B0_9.out.below hg)
          have B1_10 := Lib.hid (B1_9.out.below hg)
          have B2_10 := Lib.hid (B2_9.out.below hg)
          clear hg
          clear bs0 bx0 by0 bf0 be0 bs1 bx1 by1 bf1 be1 bs2 bx2 by2 bf2 be2
          obtain ⟨bs0, bx0, by0, bf0, be0⟩ := B0_10.out
          obtain ⟨bs1, bx1, by1, bf1, be1⟩ := B1_10.out
          obtain ⟨bs2, bx2, by2, bf2, be2⟩ := B2_10.out
          go_wp2_with fail
          have G11 : Gr w10 (w10.alloc (.cells #[.int .i64 xn, .int .i64 xd] 23)) := (Gr.one _ _)
          have T11 := Lib.hid (T10.out.trans (G11.below.mono T10.out.size))
          have B0_11 := Lib.hid (B0_10.out.keep G11)
          have B1_11 := Lib.hid (B1_10.out.keep G11)
          have B2_11 := Lib.hid (B2_10.out.keep G11)
          have B3_11 : Hid (Blk (w10.alloc (.cells #[.int .i64 xn, .int .i64 xd] 23)) (w10.heap.size) (.int .i64 xn) (.int .i64 xd)) := Lib.hid (Blk.at00 _ _ _ _)
          generalize hw11 : (w10.alloc (.cells #[.int .i64 xn, .int .i64 xd] 23)) = w11 at *
          clear hw11 G11
          clear bs0 bx0 by0 bf0 be0 bs1 bx1 by1 bf1 be1 bs2 bx2 by2 bf2 be2
          obtain ⟨bs0, bx0, by0, bf0, be0⟩ := B0_11.out
          obtain ⟨bs1, bx1, by1, bf1, be1⟩ := B1_11.out
          obtain ⟨bs2, bx2, by2, bf2, be2⟩ := B2_11.out
          obtain ⟨bs3, bx3, by3, bf3, be3⟩ := B3_11.out
          refine (HA2.out _).mono ?_
          rintro e12 w12 ⟨rfl, hg⟩
          have T12 := Lib.hid (T11.out.trans (hg.mono T11.out.size))
          have B0_12 := Lib.hid (B0_11.out.below hg)
          have B1_12 := Lib.hid (B1_11.out.below hg)
          have B2_12 := Lib.hid (B2_11.out.below hg)
          have B3_12 := Lib.hid (B3_11.out.below hg)
          clear hg
          clear bs0 bx0 by0 bf0 be0 bs1 bx1 by1 bf1 be1 bs2 bx2 by2 bf2 be2 bs3 bx3 by3 bf3 be3
          obtain ⟨bs0, bx0, by0, bf0, be0⟩ := B0_12.out
          obtain ⟨bs1, bx1, by1, bf1, be1⟩ := B1_12.out
          obtain ⟨bs2, bx2, by2, bf2, be2⟩ := B2_12.out
          obtain ⟨bs3, bx3, by3, bf3, be3⟩ := B3_12.out
          go_wp2_with fail
          have G13 : Gr w12 (w12.alloc (.cells #[.int .i64 yn, .int .i64 yd] 23)) := (Gr.one _ _)
          have T13 := Lib.hid (T12.out.trans (G13.below.mono T12.out.size))
          have B0_13 := Lib.hid (B0_12.out.keep G13)
          have B1_13 := Lib.hid (B1_12.out.keep G13)
          have B2_13 := Lib.hid (B2_12.out.keep G13)
          have B3_13 := Lib.hid (B3_12.out.keep G13)
          have B4_13 : Hid (Blk (w12.alloc (.cells #[.int .i64 yn, .int .i64 yd] 23)) (w12.heap.size) (.int .i64 yn) (.int .i64 yd)) := Lib.hid (Blk.at00 _ _ _ _)
          generalize hw13 : (w12.alloc (.cells #[.int .i64 yn, .int .i64 yd] 23)) = w13 at *
          clear hw13 G13
          clear bs0 bx0 by0 bf0 be0 bs1 bx1 by1 bf1 be1 bs2 bx2 by2 bf2 be2 bs3 bx3 by3 bf3 be3
          obtain ⟨bs0, bx0, by0, bf0, be0⟩ := B0_13.out
          obtain ⟨bs1, bx1, by1, bf1, be1⟩ := B1_13.out
          obtain ⟨bs2, bx2, by2, bf2, be2⟩ := B2_13.out
          obtain ⟨bs3, bx3, by3, bf3, be3⟩ := B3_13.out
          obtain ⟨bs4, bx4, by4, bf4, be4⟩ := B4_13.out
          refine (HC5.out _).mono ?_
          rintro e14 w14 ⟨rfl, hg⟩
          replace hg := hg.below
          have T14 := Lib.hid (T13.out.trans (hg.mono T13.out.size))
          have B0_14 := Lib.hid (B0_13.out.below hg)
          have B1_14 := Lib.hid (B1_13.out.below hg)
          have B2_14 := Lib.hid (B2_13.out.below hg)
          have B3_14 := Lib.hid (B3_13.out.below hg)
          have B4_14 := Lib.hid (B4_13.out.below hg)
          clear hg
          clear bs0 bx0 by0 bf0 be0 bs1 bx1 by1 bf1 be1 bs2 bx2 by2 bf2 be2 bs3 bx3 by3 bf3 be3 bs4 bx4 by4 bf4 be4
          obtain ⟨bs0, bx0, by0, bf0, be0⟩ := B0_14.out
          obtain ⟨bs1, bx1, by1, bf1, be1⟩ := B1_14.out
          obtain ⟨bs2, bx2, by2, bf2, be2⟩ := B2_14.out
          obtain ⟨bs3, bx3, by3, bf3, be3⟩ := B3_14.out
          obtain ⟨bs4, bx4, by4, bf4, be4⟩ := B4_14.out
          go_wp2_with fail
          go_ret
          exact ⟨rfl, T14.out⟩
theorem order_walk (a b c d p q : Int) (w : World) (hL : Laid w) (h0 : -9223372036854775808 ≤ a) (h1 : a ≤ 9223372036854775807) (h2 : -9223372036854775808 ≤ b) (h3 : b ≤ 9223372036854775807) (h4 : -9223372036854775808 ≤ c) (h5 : c ≤ 9223372036854775807) (h6 : -9223372036854775808 ≤ d) (h7 : d ≤ 9223372036854775807) (h8 : -9223372036854775808 ≤ p) (h9 : p ≤ 9223372036854775807) (ha : -9223372036854775808 ≤ q) (hb : q ≤ 9223372036854775807) : Calls Tryd.prog 5 #[.agg #[.int .i64 a, .int .i64 b], .agg #[.int .i64 c, .int .i64 d], .agg #[.int .i64 p, .int .i64 q]] w (Yes w) := by
  cases hv : (vld a b && vld c d && vld p q)
  · exact order_no a b c d p q w hL h0 h1 h2 h3 h4 h5 h6 h7 h8 h9 ha hb hv
  · simp only [Bool.and_eq_true] at hv
    obtain ⟨⟨v1, v2⟩, v3⟩ := hv
    have HV1 := Lib.hid (fun W => valid_at v1 W h0 h1 h2 h3)
    have HV2 := Lib.hid (fun W => valid_at v2 W h4 h5 h6 h7)
    have HV3 := Lib.hid (fun W => valid_at v3 W h8 h9 ha hb)
    have C1 := Lib.hid (fun W => cmp_at W v1 v2 rfl)
    have C2 := Lib.hid (fun W => cmp_at W v2 v1 (show cmp c d a b = -cmp a b c d by rw [cmp_anti a b c d v1 v2, Int.neg_neg]))
    have C3 := Lib.hid (fun W => cmp_at W v2 v3 rfl)
    have C4 := Lib.hid (fun W => cmp_at W v1 v3 rfl)
    have ht := fun x y => cmp_trans a b c d p q v1 v2 v3 x y
    cases f1 : fit (rat a b + rat p q)
    · obtain ⟨x1, x2, x3⟩ := r_no f1
      exact order_way1 a b c d p q _ _ _ _ _ _ w (cmp_bd _ _ _ _) (cmp_zero _ _ _ _) ht (Lib.hid hL) HV1 HV2 HV3 C1 C2 C3 C4 (Lib.hid (fun W => add_at W v1 v3 x1 x2 x3)) (Lib.hid (fun W => add_at W v2 v3 rfl rfl rfl))
    · obtain ⟨x1, x2, x3⟩ := r_yes f1
      cases f2 : fit (rat c d + rat p q)
      · obtain ⟨y1, y2, y3⟩ := r_no f2
        exact order_way2 a b c d p q _ _ _ _ _ w (cmp_bd _ _ _ _) (cmp_zero _ _ _ _) ht (Lib.hid hL) HV1 HV2 HV3 C1 C2 C3 C4 (Lib.hid (fun W => add_at W v1 v3 x1 x2 x3)) (Lib.hid (fun W => add_at W v2 v3 y1 y2 y3))
      · obtain ⟨y1, y2, y3⟩ := r_yes f2
        exact order_way3 a b c d p q _ _ _ _ _ _ _ w (cmp_bd _ _ _ _) (cmp_zero _ _ _ _) ht (Lib.hid hL) HV1 HV2 HV3 C1 C2 C3 C4 (Lib.hid (fun W => add_at W v1 v3 x1 x2 x3)) (Lib.hid (fun W => add_at W v2 v3 y1 y2 y3)) (Lib.hid (fun W => cmp_at W (fit_vld f1) (fit_vld f2) (cmp_add a b c d p q v1 v2 f1 f2)))
end Go.Proofs.YtdmddfhjfkdlnaaDoor
