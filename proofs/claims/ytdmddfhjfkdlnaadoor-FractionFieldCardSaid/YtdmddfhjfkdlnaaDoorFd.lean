/- The walk of the law FractionField. Under the condition that the tables and the library's variables lie in memory as the program lays them. -/
import Derived.Test.YtdmddfhjfkdlnaaDoorHd
import Derived.Test.YtdmddfhjfkdlnaaDoorPf
import Derived.Deep.DeepCutAuto
import Derived.Deep.RegionHeld3
namespace Go.Proofs.YtdmddfhjfkdlnaaDoor
open Go.RowKit
set_option maxRecDepth 100000 in
set_option maxHeartbeats 2000000 in
theorem field_no (a b c d p q : Int) (w : World) (hL : Laid w) (h0 : -9223372036854775808 ≤ a) (h1 : a ≤ 9223372036854775807) (h2 : -9223372036854775808 ≤ b) (h3 : b ≤ 9223372036854775807) (h4 : -9223372036854775808 ≤ c) (h5 : c ≤ 9223372036854775807) (h6 : -9223372036854775808 ≤ d) (h7 : d ≤ 9223372036854775807) (h8 : -9223372036854775808 ≤ p) (h9 : p ≤ 9223372036854775807) (ha : -9223372036854775808 ≤ q) (hb : q ≤ 9223372036854775807) (h : (vld a b && vld c d && vld p q) = false) : Calls Tryd.prog 4 #[.agg #[.int .i64 a, .int .i64 b], .agg #[.int .i64 c, .int .i64 d], .agg #[.int .i64 p, .int .i64 q]] w (Yes w) := by
  have HL := Lib.hid hL
  have V1 := fun W => valid_any a b W h0 h1 h2 h3
  have V2 := fun W => valid_any c d W h4 h5 h6 h7
  have V3 := fun W => valid_any p q W h8 h9 ha hb
  generalize vld a b = v1 at *
  generalize vld c d = v2 at *
  generalize vld p q = v3 at *
  have HV1 := Lib.hid V1
  have HV2 := Lib.hid V2
  have HV3 := Lib.hid V3
  clear hL V1 V2 V3
  cases v1 with
  | false =>
    clear h
    go_enter Tryd.func4, Tryd.ntmps4
    go_wp2_with fail
    have T0 := Lib.hid (Below.refl w.heap.size w)
    have G1 : Gr w (((w.alloc (.cells #[.int .i64 a, .int .i64 b] 23)).alloc (.cells #[.int .i64 c, .int .i64 d] 23)).alloc (.cells #[.int .i64 p, .int .i64 q] 23)) := (((Gr.one _ _).alloc _).alloc _)
    have T1 := Lib.hid (T0.out.trans (G1.below.mono T0.out.size))
    have B0_1 : Hid (Blk (((w.alloc (.cells #[.int .i64 a, .int .i64 b] 23)).alloc (.cells #[.int .i64 c, .int .i64 d] 23)).alloc (.cells #[.int .i64 p, .int .i64 q] 23)) (w.heap.size) (.int .i64 a) (.int .i64 b)) := Lib.hid (Blk.at02 _ _ _ _ _ _)
    have B1_1 : Hid (Blk (((w.alloc (.cells #[.int .i64 a, .int .i64 b] 23)).alloc (.cells #[.int .i64 c, .int .i64 d] 23)).alloc (.cells #[.int .i64 p, .int .i64 q] 23)) (w.heap.size + 1) (.int .i64 c) (.int .i64 d)) := Lib.hid (Blk.at11 _ _ _ _ _ _)
    have B2_1 : Hid (Blk (((w.alloc (.cells #[.int .i64 a, .int .i64 b] 23)).alloc (.cells #[.int .i64 c, .int .i64 d] 23)).alloc (.cells #[.int .i64 p, .int .i64 q] 23)) (w.heap.size + 1 + 1) (.int .i64 p) (.int .i64 q)) := Lib.hid (Blk.at20 _ _ _ _ _ _)
    generalize hw1 : (((w.alloc (.cells #[.int .i64 a, .int .i64 b] 23)).alloc (.cells #[.int .i64 c, .int .i64 d] 23)).alloc (.cells #[.int .i64 p, .int .i64 q] 23)) = w1 at *
    clear hw1 G1
    obtain ⟨bs0, bx0, by0, bf0, be0⟩ := B0_1.out
    obtain ⟨bs1, bx1, by1, bf1, be1⟩ := B1_1.out
    obtain ⟨bs2, bx2, by2, bf2, be2⟩ := B2_1.out
    refine (head_any _ (HL.out.keep T1.out)).mono ?_
    rintro e2 w2 ⟨rfl, hg⟩
    have T2 := Lib.hid (T1.out.trans (hg.mono T1.out.size))
    have B0_2 := Lib.hid (B0_1.out.below hg)
    have B1_2 := Lib.hid (B1_1.out.below hg)
    have B2_2 := Lib.hid (B2_1.out.below hg)
    clear hg
    clear bs0 bx0 by0 bf0 be0 bs1 bx1 by1 bf1 be1 bs2 bx2 by2 bf2 be2
    obtain ⟨bs0, bx0, by0, bf0, be0⟩ := B0_2.out
    obtain ⟨bs1, bx1, by1, bf1, be1⟩ := B1_2.out
    obtain ⟨bs2, bx2, by2, bf2, be2⟩ := B2_2.out
    go_wp2_with fail
    refine (HV1.out _).mono ?_
    rintro e3 w3 ⟨rfl, hg⟩
    replace hg := hg.below
    have T3 := Lib.hid (T2.out.trans (hg.mono T2.out.size))
    have B0_3 := Lib.hid (B0_2.out.below hg)
    have B1_3 := Lib.hid (B1_2.out.below hg)
    have B2_3 := Lib.hid (B2_2.out.below hg)
    clear hg
    clear bs0 bx0 by0 bf0 be0 bs1 bx1 by1 bf1 be1 bs2 bx2 by2 bf2 be2
    obtain ⟨bs0, bx0, by0, bf0, be0⟩ := B0_3.out
    obtain ⟨bs1, bx1, by1, bf1, be1⟩ := B1_3.out
    obtain ⟨bs2, bx2, by2, bf2, be2⟩ := B2_3.out
    go_wp2_with fail
    go_ret
    exact ⟨rfl, T3.out⟩
  | true =>
    cases v2 with
    | false =>
      clear h
      go_enter Tryd.func4, Tryd.ntmps4
      go_wp2_with fail
      have T0 := Lib.hid (Below.refl w.heap.size w)
      have G1 : Gr w (((w.alloc (.cells #[.int .i64 a, .int .i64 b] 23)).alloc (.cells #[.int .i64 c, .int .i64 d] 23)).alloc (.cells #[.int .i64 p, .int .i64 q] 23)) := (((Gr.one _ _).alloc _).alloc _)
      have T1 := Lib.hid (T0.out.trans (G1.below.mono T0.out.size))
      have B0_1 : Hid (Blk (((w.alloc (.cells #[.int .i64 a, .int .i64 b] 23)).alloc (.cells #[.int .i64 c, .int .i64 d] 23)).alloc (.cells #[.int .i64 p, .int .i64 q] 23)) (w.heap.size) (.int .i64 a) (.int .i64 b)) := Lib.hid (Blk.at02 _ _ _ _ _ _)
      have B1_1 : Hid (Blk (((w.alloc (.cells #[.int .i64 a, .int .i64 b] 23)).alloc (.cells #[.int .i64 c, .int .i64 d] 23)).alloc (.cells #[.int .i64 p, .int .i64 q] 23)) (w.heap.size + 1) (.int .i64 c) (.int .i64 d)) := Lib.hid (Blk.at11 _ _ _ _ _ _)
      have B2_1 : Hid (Blk (((w.alloc (.cells #[.int .i64 a, .int .i64 b] 23)).alloc (.cells #[.int .i64 c, .int .i64 d] 23)).alloc (.cells #[.int .i64 p, .int .i64 q] 23)) (w.heap.size + 1 + 1) (.int .i64 p) (.int .i64 q)) := Lib.hid (Blk.at20 _ _ _ _ _ _)
      generalize hw1 : (((w.alloc (.cells #[.int .i64 a, .int .i64 b] 23)).alloc (.cells #[.int .i64 c, .int .i64 d] 23)).alloc (.cells #[.int .i64 p, .int .i64 q] 23)) = w1 at *
      clear hw1 G1
      obtain ⟨bs0, bx0, by0, bf0, be0⟩ := B0_1.out
      obtain ⟨bs1, bx1, by1, bf1, be1⟩ := B1_1.out
      obtain ⟨bs2, bx2, by2, bf2, be2⟩ := B2_1.out
      refine (head_any _ (HL.out.keep T1.out)).mono ?_
      rintro e2 w2 ⟨rfl, hg⟩
      have T2 := Lib.hid (T1.out.trans (hg.mono T1.out.size))
      have B0_2 := Lib.hid (B0_1.out.below hg)
      have B1_2 := Lib.hid (B1_1.out.below hg)
      have B2_2 := Lib.hid (B2_1.out.below hg)
      clear hg
      clear bs0 bx0 by0 bf0 be0 bs1 bx1 by1 bf1 be1 bs2 bx2 by2 bf2 be2
      obtain ⟨bs0, bx0, by0, bf0, be0⟩ := B0_2.out
      obtain ⟨bs1, bx1, by1, bf1, be1⟩ := B1_2.out
      obtain ⟨bs2, bx2, by2, bf2, be2⟩ := B2_2.out
      go_wp2_with fail
      refine (HV1.out _).mono ?_
      rintro e3 w3 ⟨rfl, hg⟩
      replace hg := hg.below
      have T3 := Lib.hid (T2.out.trans (hg.mono T2.out.size))
      have B0_3 := Lib.hid (B0_2.out.below hg)
      have B1_3 := Lib.hid (B1_2.out.below hg)
      have B2_3 := Lib.hid (B2_2.out.below hg)
      clear hg
      clear bs0 bx0 by0 bf0 be0 bs1 bx1 by1 bf1 be1 bs2 bx2 by2 bf2 be2
      obtain ⟨bs0, bx0, by0, bf0, be0⟩ := B0_3.out
      obtain ⟨bs1, bx1, by1, bf1, be1⟩ := B1_3.out
      obtain ⟨bs2, bx2, by2, bf2, be2⟩ := B2_3.out
      go_wp2_with fail
      refine (HV2.out _).mono ?_
      rintro e4 w4 ⟨rfl, hg⟩
      replace hg := hg.below
      have T4 := Lib.hid (T3.out.trans (hg.mono T3.out.size))
      have B0_4 := Lib.hid (B0_3.out.below hg)
      have B1_4 := Lib.hid (B1_3.out.below hg)
      have B2_4 := Lib.hid (B2_3.out.below hg)
      clear hg
      clear bs0 bx0 by0 bf0 be0 bs1 bx1 by1 bf1 be1 bs2 bx2 by2 bf2 be2
      obtain ⟨bs0, bx0, by0, bf0, be0⟩ := B0_4.out
      obtain ⟨bs1, bx1, by1, bf1, be1⟩ := B1_4.out
      obtain ⟨bs2, bx2, by2, bf2, be2⟩ := B2_4.out
      go_wp2_with fail
      go_ret
      exact ⟨rfl, T4.out⟩
    | true =>
      obtain rfl : v3 = false := by simpa using h
      clear h
      go_enter Tryd.func4, Tryd.ntmps4
      go_wp2_with fail
      have T0 := Lib.hid (Below.refl w.heap.size w)
      have G1 : Gr w (((w.alloc (.cells #[.int .i64 a, .int .i64 b] 23)).alloc (.cells #[.int .i64 c, .int .i64 d] 23)).alloc (.cells #[.int .i64 p, .int .i64 q] 23)) := (((Gr.one _ _).alloc _).alloc _)
      have T1 := Lib.hid (T0.out.trans (G1.below.mono T0.out.size))
      have B0_1 : Hid (Blk (((w.alloc (.cells #[.int .i64 a, .int .i64 b] 23)).alloc (.cells #[.int .i64 c, .int .i64 d] 23)).alloc (.cells #[.int .i64 p, .int .i64 q] 23)) (w.heap.size) (.int .i64 a) (.int .i64 b)) := Lib.hid (Blk.at02 _ _ _ _ _ _)
      have B1_1 : Hid (Blk (((w.alloc (.cells #[.int .i64 a, .int .i64 b] 23)).alloc (.cells #[.int .i64 c, .int .i64 d] 23)).alloc (.cells #[.int .i64 p, .int .i64 q] 23)) (w.heap.size + 1) (.int .i64 c) (.int .i64 d)) := Lib.hid (Blk.at11 _ _ _ _ _ _)
      have B2_1 : Hid (Blk (((w.alloc (.cells #[.int .i64 a, .int .i64 b] 23)).alloc (.cells #[.int .i64 c, .int .i64 d] 23)).alloc (.cells #[.int .i64 p, .int .i64 q] 23)) (w.heap.size + 1 + 1) (.int .i64 p) (.int .i64 q)) := Lib.hid (Blk.at20 _ _ _ _ _ _)
      generalize hw1 : (((w.alloc (.cells #[.int .i64 a, .int .i64 b] 23)).alloc (.cells #[.int .i64 c, .int .i64 d] 23)).alloc (.cells #[.int .i64 p, .int .i64 q] 23)) = w1 at *
      clear hw1 G1
      obtain ⟨bs0, bx0, by0, bf0, be0⟩ := B0_1.out
      obtain ⟨bs1, bx1, by1, bf1, be1⟩ := B1_1.out
      obtain ⟨bs2, bx2, by2, bf2, be2⟩ := B2_1.out
      refine (head_any _ (HL.out.keep T1.out)).mono ?_
      rintro e2 w2 ⟨rfl, hg⟩
      have T2 := Lib.hid (T1.out.trans (hg.mono T1.out.size))
      have B0_2 := Lib.hid (B0_1.out.below hg)
      have B1_2 := Lib.hid (B1_1.out.below hg)
      have B2_2 := Lib.hid (B2_1.out.below hg)
      clear hg
      clear bs0 bx0 by0 bf0 be0 bs1 bx1 by1 bf1 be1 bs2 bx2 by2 bf2 be2
      obtain ⟨bs0, bx0, by0, bf0, be0⟩ := B0_2.out
      obtain ⟨bs1, bx1, by1, bf1, be1⟩ := B1_2.out
      obtain ⟨bs2, bx2, by2, bf2, be2⟩ := B2_2.out
      go_wp2_with fail
      refine (HV1.out _).mono ?_
      rintro e3 w3 ⟨rfl, hg⟩
      replace hg := hg.below
      have T3 := Lib.hid (T2.out.trans (hg.mono T2.out.size))
      have B0_3 := Lib.hid (B0_2.out.below hg)
      have B1_3 := Lib.hid (B1_2.out.below hg)
      have B2_3 := Lib.hid (B2_2.out.below hg)
      clear hg
      clear bs0 bx0 by0 bf0 be0 bs1 bx1 by1 bf1 be1 bs2 bx2 by2 bf2 be2
      obtain ⟨bs0, bx0, by0, bf0, be0⟩ := B0_3.out
      obtain ⟨bs1, bx1, by1, bf1, be1⟩ := B1_3.out
      obtain ⟨bs2, bx2, by2, bf2, be2⟩ := B2_3.out
      go_wp2_with fail
      refine (HV2.out _).mono ?_
      rintro e4 w4 ⟨rfl, hg⟩
      replace hg := hg.below
      have T4 := Lib.hid (T3.out.trans (hg.mono T3.out.size))
      have B0_4 := Lib.hid (B0_3.out.below hg)
      have B1_4 := Lib.hid (B1_3.out.below hg)
      have B2_4 := Lib.hid (B2_3.out.below hg)
      clear hg
      clear bs0 bx0 by0 bf0 be0 bs1 bx1 by1 bf1 be1 bs2 bx2 by2 bf2 be2
      obtain ⟨bs0, bx0, by0, bf0, be0⟩ := B0_4.out
      obtain ⟨bs1, bx1, by1, bf1, be1⟩ := B1_4.out
      obtain ⟨bs2, bx2, by2, bf2, be2⟩ := B2_4.out
      go_wp2_with fail
      refine (HV3.out _).mono ?_
      rintro e5 w5 ⟨rfl, hg⟩
      replace hg := hg.below
      have T5 := Lib.hid (T4.out.trans (hg.mono T4.out.size))
      have B0_5 := Lib.hid (B0_4.out.below hg)
      have B1_5 := Lib.hid (B1_4.out.below hg)
      have B2_5 := Lib.hid (B2_4.out.below hg)
      clear hg
      clear bs0 bx0 by0 bf0 be0 bs1 bx1 by1 bf1 be1 bs2 bx2 by2 bf2 be2
      obtain ⟨bs0, bx0, by0, bf0, be0⟩ := B0_5.out
      obtain ⟨bs1, bx1, by1, bf1, be1⟩ := B1_5.out
      obtain ⟨bs2, bx2, by2, bf2, be2⟩ := B2_5.out
      go_wp2_with fail
      go_ret
      exact ⟨rfl, T5.out⟩
/-- a new block that holds a fraction -/
def One (W : World) (x y : Value) (s : Value) (wx : World) : Prop := ∃ g, s = .pointer (some ⟨g, 0, none⟩) ∧ Blk wx g x y ∧ Below W.heap.size W wx
theorem bl_al {W w : World} {o : Obj} (h : Below W.heap.size W w) : Below W.heap.size W (w.alloc o) := h.alloc h.size _
theorem bl_tr {W w w' : World} (h : Below W.heap.size W w) (g : Below w.heap.size w w') : Below W.heap.size W w' := h.trans (g.mono h.size)
theorem Blk.b1 {W w : World} {x y : Value} {T : TypeId} (h : Below (W.alloc (.cells #[x, y] T)).heap.size (W.alloc (.cells #[x, y] T)) w) : Blk w W.heap.size x y := (Blk.made W x y T).below h
theorem One.new {W w : World} {x y : Value} {T : TypeId} (h : Below W.heap.size W w) : One W x y (.pointer (some ⟨w.heap.size, 0, none⟩)) (w.alloc (.cells #[x, y] T)) := ⟨_, rfl, Blk.made _ _ _ _, bl_al h⟩
theorem One.old {W w : World} {x y z1 z2 : Value} {g : Nat} (h : Below W.heap.size W w) (hB : Blk w g z1 z2) (hg : W.heap.size ≤ g) : One W x y (.pointer (some ⟨g, 0, none⟩)) ((w.setCell ⟨g, 0, none⟩ x).setCell ⟨g, 1, none⟩ y) := ⟨_, rfl, hB.put, put_below h hg⟩
set_option maxRecDepth 100000 in
set_option maxHeartbeats 20000000 in
theorem field_way (a b c d p q an ad ae cn cd ce sn sd se tn td te xn xd xe yn yd ye un ud ue zn zd ze : Int) (h0 : -9223372036854775807 ≤ a) (h1 : a ≤ 9223372036854775807) (w : World) (HL : Hid (Laid w))
    (HV1 : Hid (∀ W, Calls Tryd.prog 16 #[.agg #[.int .i64 a, .int .i64 b]] W fun e w' => e = .returned (.bool true) ∧ Gr W w'))
    (HV2 : Hid (∀ W, Calls Tryd.prog 16 #[.agg #[.int .i64 c, .int .i64 d]] W fun e w' => e = .returned (.bool true) ∧ Gr W w'))
    (HV3 : Hid (∀ W, Calls Tryd.prog 16 #[.agg #[.int .i64 p, .int .i64 q]] W fun e w' => e = .returned (.bool true) ∧ Gr W w'))
    (A1 : Hid (∀ W, Calls Tryd.prog 12 #[.agg #[.int .i64 a, .int .i64 b], .agg #[.int .i64 c, .int .i64 d]] W fun e w' => e = .returned (.tuple #[.agg #[.int .i64 an, .int .i64 ad], .int .i64 ae]) ∧ Below W.heap.size W w'))
    (A2 : Hid (∀ W, Calls Tryd.prog 12 #[.agg #[.int .i64 c, .int .i64 d], .agg #[.int .i64 a, .int .i64 b]] W fun e w' => e = .returned (.tuple #[.agg #[.int .i64 an, .int .i64 ad], .int .i64 ae]) ∧ Below W.heap.size W w'))
    (M1 : Hid (∀ W, Calls Tryd.prog 14 #[.agg #[.int .i64 a, .int .i64 b], .agg #[.int .i64 c, .int .i64 d]] W fun e w' => e = .returned (.tuple #[.agg #[.int .i64 cn, .int .i64 cd], .int .i64 ce]) ∧ Below W.heap.size W w'))
    (M2 : Hid (∀ W, Calls Tryd.prog 14 #[.agg #[.int .i64 c, .int .i64 d], .agg #[.int .i64 a, .int .i64 b]] W fun e w' => e = .returned (.tuple #[.agg #[.int .i64 cn, .int .i64 cd], .int .i64 ce]) ∧ Below W.heap.size W w'))
    (AZ : Hid (∀ W, Calls Tryd.prog 12 #[.agg #[.int .i64 a, .int .i64 b], .agg #[.int .i64 (-a), .int .i64 b]] W fun e w' => e = .returned (.tuple #[.agg #[.int .i64 0, .int .i64 1], .int .i64 0]) ∧ Below W.heap.size W w'))
    (MS : Hid (∀ W, Calls Tryd.prog 14 #[.agg #[.int .i64 a, .int .i64 b], .agg #[.int .i64 1, .int .i64 1]] W fun e w' => e = .returned (.tuple #[.agg #[.int .i64 a, .int .i64 b], .int .i64 0]) ∧ Below W.heap.size W w'))
    (A3 : Hid (∀ W, Calls Tryd.prog 12 #[.agg #[.int .i64 c, .int .i64 d], .agg #[.int .i64 p, .int .i64 q]] W fun e w' => e = .returned (.tuple #[.agg #[.int .i64 sn, .int .i64 sd], .int .i64 se]) ∧ Below W.heap.size W w'))
    (M3 : Hid (∀ W, Calls Tryd.prog 14 #[.agg #[.int .i64 c, .int .i64 d], .agg #[.int .i64 p, .int .i64 q]] W fun e w' => e = .returned (.tuple #[.agg #[.int .i64 tn, .int .i64 td], .int .i64 te]) ∧ Below W.heap.size W w'))
    (A4 : Hid (ae = 0 → se = 0 → ∀ W, Calls Tryd.prog 12 #[.agg #[.int .i64 an, .int .i64 ad], .agg #[.int .i64 p, .int .i64 q]] W fun e w' => e = .returned (.tuple #[.agg #[.int .i64 xn, .int .i64 xd], .int .i64 xe]) ∧ Below W.heap.size W w'))
    (A5 : Hid (ae = 0 → se = 0 → ∀ W, Calls Tryd.prog 12 #[.agg #[.int .i64 a, .int .i64 b], .agg #[.int .i64 sn, .int .i64 sd]] W fun e w' => e = .returned (.tuple #[.agg #[.int .i64 xn, .int .i64 xd], .int .i64 xe]) ∧ Below W.heap.size W w'))
    (M4 : Hid (ce = 0 → te = 0 → ∀ W, Calls Tryd.prog 14 #[.agg #[.int .i64 cn, .int .i64 cd], .agg #[.int .i64 p, .int .i64 q]] W fun e w' => e = .returned (.tuple #[.agg #[.int .i64 yn, .int .i64 yd], .int .i64 ye]) ∧ Below W.heap.size W w'))
    (M5 : Hid (ce = 0 → te = 0 → ∀ W, Calls Tryd.prog 14 #[.agg #[.int .i64 a, .int .i64 b], .agg #[.int .i64 tn, .int .i64 td]] W fun e w' => e = .returned (.tuple #[.agg #[.int .i64 yn, .int .i64 yd], .int .i64 ye]) ∧ Below W.heap.size W w'))
    (M6 : Hid (∀ W, Calls Tryd.prog 14 #[.agg #[.int .i64 a, .int .i64 b], .agg #[.int .i64 p, .int .i64 q]] W fun e w' => e = .returned (.tuple #[.agg #[.int .i64 un, .int .i64 ud], .int .i64 ue]) ∧ Below W.heap.size W w'))
    (M7 : Hid (se = 0 → ce = 0 → ue = 0 → ∀ W, Calls Tryd.prog 14 #[.agg #[.int .i64 a, .int .i64 b], .agg #[.int .i64 sn, .int .i64 sd]] W fun e w' => e = .returned (.tuple #[.agg #[.int .i64 zn, .int .i64 zd], .int .i64 ze]) ∧ Below W.heap.size W w'))
    (A6 : Hid (se = 0 → ce = 0 → ue = 0 → ∀ W, Calls Tryd.prog 12 #[.agg #[.int .i64 cn, .int .i64 cd], .agg #[.int .i64 un, .int .i64 ud]] W fun e w' => e = .returned (.tuple #[.agg #[.int .i64 zn, .int .i64 zd], .int .i64 ze]) ∧ Below W.heap.size W w')) : Calls Tryd.prog 4 #[.agg #[.int .i64 a, .int .i64 b], .agg #[.int .i64 c, .int .i64 d], .agg #[.int .i64 p, .int .i64 q]] w (Yes w) := by
  go_enter Tryd.func4, Tryd.ntmps4
  go_wp2_with fail
  have T0 := Lib.hid (Below.refl w.heap.size w)
  have G1 : Gr w (((w.alloc (.cells #[.int .i64 a, .int .i64 b] 23)).alloc (.cells #[.int .i64 c, .int .i64 d] 23)).alloc (.cells #[.int .i64 p, .int .i64 q] 23)) := (((Gr.one _ _).alloc _).alloc _)
  have T1 := Lib.hid (T0.out.trans (G1.below.mono T0.out.size))
  have B0_1 : Hid (Blk (((w.alloc (.cells #[.int .i64 a, .int .i64 b] 23)).alloc (.cells #[.int .i64 c, .int .i64 d] 23)).alloc (.cells #[.int .i64 p, .int .i64 q] 23)) (w.heap.size) (.int .i64 a) (.int .i64 b)) := Lib.hid (Blk.at02 _ _ _ _ _ _)
  have B1_1 : Hid (Blk (((w.alloc (.cells #[.int .i64 a, .int .i64 b] 23)).alloc (.cells #[.int .i64 c, .int .i64 d] 23)).alloc (.cells #[.int .i64 p, .int .i64 q] 23)) (w.heap.size + 1) (.int .i64 c) (.int .i64 d)) := Lib.hid (Blk.at11 _ _ _ _ _ _)
  have B2_1 : Hid (Blk (((w.alloc (.cells #[.int .i64 a, .int .i64 b] 23)).alloc (.cells #[.int .i64 c, .int .i64 d] 23)).alloc (.cells #[.int .i64 p, .int .i64 q] 23)) (w.heap.size + 1 + 1) (.int .i64 p) (.int .i64 q)) := Lib.hid (Blk.at20 _ _ _ _ _ _)
  generalize hw1 : (((w.alloc (.cells #[.int .i64 a, .int .i64 b] 23)).alloc (.cells #[.int .i64 c, .int .i64 d] 23)).alloc (.cells #[.int .i64 p, .int .i64 q] 23)) = w1 at *
  clear hw1 G1
  obtain ⟨bs0, bx0, by0, bf0, be0⟩ := B0_1.out
  obtain ⟨bs1, bx1, by1, bf1, be1⟩ := B1_1.out
  obtain ⟨bs2, bx2, by2, bf2, be2⟩ := B2_1.out
  refine (head_any _ (HL.out.keep T1.out)).mono ?_
  rintro e2 w2 ⟨rfl, hg⟩
  have T2 := Lib.hid (T1.out.trans (hg.mono T1.out.size))
  have B0_2 := Lib.hid (B0_1.out.below hg)
  have B1_2 := Lib.hid (B1_1.out.below hg)
  have B2_2 := Lib.hid (B2_1.out.below hg)
  clear hg
  clear bs0 bx0 by0 bf0 be0 bs1 bx1 by1 bf1 be1 bs2 bx2 by2 bf2 be2
  obtain ⟨bs0, bx0, by0, bf0, be0⟩ := B0_2.out
  obtain ⟨bs1, bx1, by1, bf1, be1⟩ := B1_2.out
  obtain ⟨bs2, bx2, by2, bf2, be2⟩ := B2_2.out
  go_wp2_with fail
  refine (HV1.out _).mono ?_
  rintro e3 w3 ⟨rfl, hg⟩
  replace hg := hg.below
  have T3 := Lib.hid (T2.out.trans (hg.mono T2.out.size))
  have B0_3 := Lib.hid (B0_2.out.below hg)
  have B1_3 := Lib.hid (B1_2.out.below hg)
  have B2_3 := Lib.hid (B2_2.out.below hg)
  clear hg
  clear bs0 bx0 by0 bf0 be0 bs1 bx1 by1 bf1 be1 bs2 bx2 by2 bf2 be2
  obtain ⟨bs0, bx0, by0, bf0, be0⟩ := B0_3.out
  obtain ⟨bs1, bx1, by1, bf1, be1⟩ := B1_3.out
  obtain ⟨bs2, bx2, by2, bf2, be2⟩ := B2_3.out
  go_wp2_with fail
  refine (HV2.out _).mono ?_
  rintro e4 w4 ⟨rfl, hg⟩
  replace hg := hg.below
  have T4 := Lib.hid (T3.out.trans (hg.mono T3.out.size))
  have B0_4 := Lib.hid (B0_3.out.below hg)
  have B1_4 := Lib.hid (B1_3.out.below hg)
  have B2_4 := Lib.hid (B2_3.out.below hg)
  clear hg
  clear bs0 bx0 by0 bf0 be0 bs1 bx1 by1 bf1 be1 bs2 bx2 by2 bf2 be2
  obtain ⟨bs0, bx0, by0, bf0, be0⟩ := B0_4.out
  obtain ⟨bs1, bx1, by1, bf1, be1⟩ := B1_4.out
  obtain ⟨bs2, bx2, by2, bf2, be2⟩ := B2_4.out
  go_wp2_with fail
  refine (HV3.out _).mono ?_
  rintro e5 w5 ⟨rfl, hg⟩
  replace hg := hg.below
  have T5 := Lib.hid (T4.out.trans (hg.mono T4.out.size))
  have B0_5 := Lib.hid (B0_4.out.below hg)
  have B1_5 := Lib.hid (B1_4.out.below hg)
  have B2_5 := Lib.hid (B2_4.out.below hg)
  clear hg
  clear bs0 bx0 by0 bf0 be0 bs1 bx1 by1 bf1 be1 bs2 bx2 by2 bf2 be2
  obtain ⟨bs0, bx0, by0, bf0, be0⟩ := B0_5.out
  obtain ⟨bs1, bx1, by1, bf1, be1⟩ := B1_5.out
  obtain ⟨bs2, bx2, by2, bf2, be2⟩ := B2_5.out
  go_wp2_with fail
  clear HV1 HV2 HV3 HL
  refine (A1.out _).mono ?_
  rintro e6 w6 ⟨rfl, hg⟩
  have T6 := Lib.hid (T5.out.trans (hg.mono T5.out.size))
  have B0_6 := Lib.hid (B0_5.out.below hg)
  have B1_6 := Lib.hid (B1_5.out.below hg)
  have B2_6 := Lib.hid (B2_5.out.below hg)
  clear hg
  clear bs0 bx0 by0 bf0 be0 bs1 bx1 by1 bf1 be1 bs2 bx2 by2 bf2 be2
  obtain ⟨bs0, bx0, by0, bf0, be0⟩ := B0_6.out
  obtain ⟨bs1, bx1, by1, bf1, be1⟩ := B1_6.out
  obtain ⟨bs2, bx2, by2, bf2, be2⟩ := B2_6.out
  go_wp2_with fail
  have G7 : Gr w6 (w6.alloc (.cells #[.int .i64 an, .int .i64 ad] 23)) := (Gr.one _ _)
  have T7 := Lib.hid (T6.out.trans (G7.below.mono T6.out.size))
  have B0_7 := Lib.hid (B0_6.out.keep G7)
  have B1_7 := Lib.hid (B1_6.out.keep G7)
  have B2_7 := Lib.hid (B2_6.out.keep G7)
  have B3_7 : Hid (Blk (w6.alloc (.cells #[.int .i64 an, .int .i64 ad] 23)) (w6.heap.size) (.int .i64 an) (.int .i64 ad)) := Lib.hid (Blk.at00 _ _ _ _)
  generalize hw7 : (w6.alloc (.cells #[.int .i64 an, .int .i64 ad] 23)) = w7 at *
  clear hw7 G7
  clear bs0 bx0 by0 bf0 be0 bs1 bx1 by1 bf1 be1 bs2 bx2 by2 bf2 be2
  obtain ⟨bs0, bx0, by0, bf0, be0⟩ := B0_7.out
  obtain ⟨bs1, bx1, by1, bf1, be1⟩ := B1_7.out
  obtain ⟨bs2, bx2, by2, bf2, be2⟩ := B2_7.out
  obtain ⟨bs3, bx3, by3, bf3, be3⟩ := B3_7.out
  refine (A2.out _).mono ?_
  rintro e8 w8 ⟨rfl, hg⟩
  have T8 := Lib.hid (T7.out.trans (hg.mono T7.out.size))
  have B0_8 := Lib.hid (B0_7.out.below hg)
  have B1_8 := Lib.hid (B1_7.out.below hg)
  have B2_8 := Lib.hid (B2_7.out.below hg)
  have B3_8 := Lib.hid (B3_7.out.below hg)
  clear hg
  clear bs0 bx0 by0 bf0 be0 bs1 bx1 by1 bf1 be1 bs2 bx2 by2 bf2 be2 bs3 bx3 by3 bf3 be3
  obtain ⟨bs0, bx0, by0, bf0, be0⟩ := B0_8.out
  obtain ⟨bs1, bx1, by1, bf1, be1⟩ := B1_8.out
  obtain ⟨bs2, bx2, by2, bf2, be2⟩ := B2_8.out
  obtain ⟨bs3, bx3, by3, bf3, be3⟩ := B3_8.out
  go_wp2_with fail
  have G9 : Gr w8 (w8.alloc (.cells #[.int .i64 an, .int .i64 ad] 23)) := (Gr.one _ _)
  have T9 := Lib.hid (T8.out.trans (G9.below.mono T8.out.size))
  have B0_9 := Lib.hid (B0_8.out.keep G9)
  have B1_9 := Lib.hid (B1_8.out.keep G9)
  have B2_9 := Lib.hid (B2_8.out.keep G9)
  have B3_9 := Lib.hid (B3_8.out.keep G9)
  have B4_9 : Hid (Blk (w8.alloc (.cells #[.int .i64 an, .int .i64 ad] 23)) (w8.heap.size) (.int .i64 an) (.int .i64 ad)) := Lib.hid (Blk.at00 _ _ _ _)
  generalize hw9 : (w8.alloc (.cells #[.int .i64 an, .int .i64 ad] 23)) = w9 at *
  clear hw9 G9
  clear bs0 bx0 by0 bf0 be0 bs1 bx1 by1 bf1 be1 bs2 bx2 by2 bf2 be2 bs3 bx3 by3 bf3 be3
  obtain ⟨bs0, bx0, by0, bf0, be0⟩ := B0_9.out
  obtain ⟨bs1, bx1, by1, bf1, be1⟩ := B1_9.out
  obtain ⟨bs2, bx2, by2, bf2, be2⟩ := B2_9.out
  obtain ⟨bs3, bx3, by3, bf3, be3⟩ := B3_9.out
  obtain ⟨bs4, bx4, by4, bf4, be4⟩ := B4_9.out
  refine (M1.out _).mono ?_
  rintro e10 w10 ⟨rfl, hg⟩
  have T10 := Lib.hid (T9.out.trans (hg.mono T9.out.size))
  have B0_10 := Lib.hid (B0_9.out.below hg)
  have B1_10 := Lib.hid (B1_9.out.below hg)
  have B2_10 := Lib.hid (B2_9.out.below hg)
  have B3_10 := Lib.hid (B3_9.out.below hg)
  have B4_10 := Lib.hid (B4_9.out.below hg)
  clear hg
  clear bs0 bx0 by0 bf0 be0 bs1 bx1 by1 bf1 be1 bs2 bx2 by2 bf2 be2 bs3 bx3 by3 bf3 be3 bs4 bx4 by4 bf4 be4
  obtain ⟨bs0, bx0, by0, bf0, be0⟩ := B0_10.out
  obtain ⟨bs1, bx1, by1, bf1, be1⟩ := B1_10.out
  obtain ⟨bs2, bx2, by2, bf2, be2⟩ := B2_10.out
  obtain ⟨bs3, bx3, by3, bf3, be3⟩ := B3_10.out
  obtain ⟨bs4, bx4, by4, bf4, be4⟩ := B4_10.out
  go_wp2_with fail
  have G11 : Gr w10 (w10.alloc (.cells #[.int .i64 cn, .int .i64 cd] 23)) := (Gr.one _ _)
  have T11 := Lib.hid (T10.out.trans (G11.below.mono T10.out.size))
  have B0_11 := Lib.hid (B0_10.out.keep G11)
  have B1_11 := Lib.hid (B1_10.out.keep G11)
  have B2_11 := Lib.hid (B2_10.out.keep G11)
  have B3_11 := Lib.hid (B3_10.out.keep G11)
  have B4_11 := Lib.hid (B4_10.out.keep G11)
  have B5_11 : Hid (Blk (w10.alloc (.cells #[.int .i64 cn, .int .i64 cd] 23)) (w10.heap.size) (.int .i64 cn) (.int .i64 cd)) := Lib.hid (Blk.at00 _ _ _ _)
  generalize hw11 : (w10.alloc (.cells #[.int .i64 cn, .int .i64 cd] 23)) = w11 at *
  clear hw11 G11
  clear bs0 bx0 by0 bf0 be0 bs1 bx1 by1 bf1 be1 bs2 bx2 by2 bf2 be2 bs3 bx3 by3 bf3 be3 bs4 bx4 by4 bf4 be4
  obtain ⟨bs0, bx0, by0, bf0, be0⟩ := B0_11.out
  obtain ⟨bs1, bx1, by1, bf1, be1⟩ := B1_11.out
  obtain ⟨bs2, bx2, by2, bf2, be2⟩ := B2_11.out
  obtain ⟨bs3, bx3, by3, bf3, be3⟩ := B3_11.out
  obtain ⟨bs4, bx4, by4, bf4, be4⟩ := B4_11.out
  obtain ⟨bs5, bx5, by5, bf5, be5⟩ := B5_11.out
  refine (M2.out _).mono ?_
  rintro e12 w12 ⟨rfl, hg⟩
  have T12 := Lib.hid (T11.out.trans (hg.mono T11.out.size))
  have B0_12 := Lib.hid (B0_11.out.below hg)
  have B1_12 := Lib.hid (B1_11.out.below hg)
  have B2_12 := Lib.hid (B2_11.out.below hg)
  have B3_12 := Lib.hid (B3_11.out.below hg)
  have B4_12 := Lib.hid (B4_11.out.below hg)
  have B5_12 := Lib.hid (B5_11.out.below hg)
  clear hg
  clear bs0 bx0 by0 bf0 be0 bs1 bx1 by1 bf1 be1 bs2 bx2 by2 bf2 be2 bs3 bx3 by3 bf3 be3 bs4 bx4 by4 bf4 be4 bs5 bx5 by5 bf5 be5
  obtain ⟨bs0, bx0, by0, bf0, be0⟩ := B0_12.out
  obtain ⟨bs1, bx1, by1, bf1, be1⟩ := B1_12.out
  obtain ⟨bs2, bx2, by2, bf2, be2⟩ := B2_12.out
  obtain ⟨bs3, bx3, by3, bf3, be3⟩ := B3_12.out
  obtain ⟨bs4, bx4, by4, bf4, be4⟩ := B4_12.out
  obtain ⟨bs5, bx5, by5, bf5, be5⟩ := B5_12.out
  go_upto_region 8 with fail
  have G13 : Gr w12 (w12.alloc (.cells #[.int .i64 cn, .int .i64 cd] 23)) := (Gr.one _ _)
  have T13 := Lib.hid (T12.out.trans (G13.below.mono T12.out.size))
  have B0_13 := Lib.hid (B0_12.out.keep G13)
  have B1_13 := Lib.hid (B1_12.out.keep G13)
  have B2_13 := Lib.hid (B2_12.out.keep G13)
  have B3_13 := Lib.hid (B3_12.out.keep G13)
  have B4_13 := Lib.hid (B4_12.out.keep G13)
  have B5_13 := Lib.hid (B5_12.out.keep G13)
  have B6_13 : Hid (Blk (w12.alloc (.cells #[.int .i64 cn, .int .i64 cd] 23)) (w12.heap.size) (.int .i64 cn) (.int .i64 cd)) := Lib.hid (Blk.at00 _ _ _ _)
  generalize hw13 : (w12.alloc (.cells #[.int .i64 cn, .int .i64 cd] 23)) = w13 at *
  clear hw13 G13
  clear bs0 bx0 by0 bf0 be0 bs1 bx1 by1 bf1 be1 bs2 bx2 by2 bf2 be2 bs3 bx3 by3 bf3 be3 bs4 bx4 by4 bf4 be4 bs5 bx5 by5 bf5 be5
  obtain ⟨bs0, bx0, by0, bf0, be0⟩ := B0_13.out
  obtain ⟨bs1, bx1, by1, bf1, be1⟩ := B1_13.out
  obtain ⟨bs2, bx2, by2, bf2, be2⟩ := B2_13.out
  obtain ⟨bs3, bx3, by3, bf3, be3⟩ := B3_13.out
  obtain ⟨bs4, bx4, by4, bf4, be4⟩ := B4_13.out
  obtain ⟨bs5, bx5, by5, bf5, be5⟩ := B5_13.out
  obtain ⟨bs6, bx6, by6, bf6, be6⟩ := B6_13.out
  clear A1 A2 M1 M2
  have hneg : IntKind.i64.wrap (-a) = -a := IntWalk.i64_in _ (by omega)
  go_upto_region 8 with fail
  go_cut [16, 17] (fun sp se wx => se = .int .i64 0 ∧ One w13 (.int .i64 0) (.int .i64 1) sp wx)
  case first => as_aux_lemma =>
    clear MS A3 M3 A4 A5 M4 M5 M6 M7 A6
    clear bs1 bx1 by1 bf1 be1 B1_13
    clear bs2 bx2 by2 bf2 be2 B2_13
    clear bs3 bx3 by3 bf3 be3 B3_13
    clear bs4 bx4 by4 bf4 be4 B4_13
    clear bs5 bx5 by5 bf5 be5 B5_13
    clear bs6 bx6 by6 bf6 be6 B6_13
    go_region_held3 (fun w' => w'.cell? ⟨w.heap.size, 0, none⟩ = some (.int .i64 a) ∧ w'.cell? ⟨w.heap.size, 1, none⟩ = some (.int .i64 b)) (first | (go_keep; done) | ((try dsimp only); refine ⟨?_, ?_⟩ <;> first | (simp [*]; done) | ((repeat (first | refine Lib.cell?_alloc_some _ ?_ | (rw [World.cell?_setCell_other _ _ _ _ (by intro e; injection e with e1 e2; omega)]))); simp [*]; done)))
      (first | (go_at_call 26; refine (of_any _ _ _).mono ?_; rintro e w1 ⟨rfl, hg⟩; (have h1 : Gr w13 w1 := by first | with_reducible exact Gr.g1 hg | with_reducible exact Gr.g2 hg | exact Gr.g1 hg | exact Gr.g2 hg); (have HB1 := Lib.hid h1.below); (obtain ⟨_, cx1, cy1, _⟩ := B0_13.out.keep h1); (try (refine Blk.use (w := w1) (b := w13.heap.size) (x := .int .i64 0) (y := .int .i64 0) ?_ ?_; (focus (first | with_reducible exact Blk.k1 hg | exact Blk.k1 hg)); (intro T1a l1a m1a n1a o1a p1a))); clear hg h1) | (go_at_call 12; refine (AZ.out _).mono ?_; rintro e w2 ⟨rfl, hg⟩; (have HB2 : Hid (Below w13.heap.size w13 w2) := by first | (with_reducible exact Lib.hid (bl_tr HB1.out hg)) | (with_reducible exact Lib.hid (bl_tr (bl_al HB1.out) hg))); (obtain ⟨_, cx2, cy2, _⟩ := B0_13.out.below HB2.out); (try (refine Blk.use (w := w2) (b := w13.heap.size) (x := .int .i64 0) (y := .int .i64 0) ?_ ?_; (focus (first | with_reducible exact T1a.out.below hg)); (intro T2a l2a m2a n2a o2a p2a))); (try (refine Blk.use (w := w2) (b := w1.heap.size) (x := .int .i64 0) (y := .int .i64 0) ?_ ?_; (focus (first | with_reducible exact Blk.b1 hg)); (intro T2b l2b m2b n2b o2b p2b))); clear hg))
    all_goals
      (go_wp2_with fail
       go_meet
       refine ⟨rfl, ?_⟩
       first
         | with_reducible exact One.new HB2.out
         | with_reducible exact One.old HB2.out T2a.out (Nat.le_refl _)
         | with_reducible exact One.old HB2.out T2b.out HB1.out.size)
  case rest =>
    obtain ⟨rfl, g8, rfl, hBk, hG⟩ := hcut
    obtain ⟨w14, hw⟩ : ∃ w14, w14 = wc := ⟨_, rfl⟩
    subst hw
    have T14 := Lib.hid (T13.out.trans (hG.mono T13.out.size))
    have B0_14 := Lib.hid (B0_13.out.below hG)
    have B1_14 := Lib.hid (B1_13.out.below hG)
    have B2_14 := Lib.hid (B2_13.out.below hG)
    have B3_14 := Lib.hid (B3_13.out.below hG)
    have B4_14 := Lib.hid (B4_13.out.below hG)
    have B5_14 := Lib.hid (B5_13.out.below hG)
    have B6_14 := Lib.hid (B6_13.out.below hG)
    have B7_14 := Lib.hid hBk
    clear hG hBk AZ
    clear bs0 bx0 by0 bf0 be0 bs1 bx1 by1 bf1 be1 bs2 bx2 by2 bf2 be2 bs3 bx3 by3 bf3 be3 bs4 bx4 by4 bf4 be4 bs5 bx5 by5 bf5 be5 bs6 bx6 by6 bf6 be6
    obtain ⟨bs0, bx0, by0, bf0, be0⟩ := B0_14.out
    obtain ⟨bs1, bx1, by1, bf1, be1⟩ := B1_14.out
    obtain ⟨bs2, bx2, by2, bf2, be2⟩ := B2_14.out
    obtain ⟨bs3, bx3, by3, bf3, be3⟩ := B3_14.out
    obtain ⟨bs4, bx4, by4, bf4, be4⟩ := B4_14.out
    obtain ⟨bs5, bx5, by5, bf5, be5⟩ := B5_14.out
    obtain ⟨bs6, bx6, by6, bf6, be6⟩ := B6_14.out
    obtain ⟨bs7, bx7, by7, bf7, be7⟩ := B7_14.out
    go_upto_region 9 with fail
    go_cut [18, 19] (fun sp se wx => se = .int .i64 0 ∧ One w14 (.int .i64 a) (.int .i64 b) sp wx)
    case first => as_aux_lemma =>
      clear A3 M3 A4 A5 M4 M5 M6 M7 A6
      clear bs1 bx1 by1 bf1 be1 B1_14
      clear bs2 bx2 by2 bf2 be2 B2_14
      clear bs3 bx3 by3 bf3 be3 B3_14
      clear bs4 bx4 by4 bf4 be4 B4_14
      clear bs5 bx5 by5 bf5 be5 B5_14
      clear bs6 bx6 by6 bf6 be6 B6_14
      clear bs7 bx7 by7 bf7 be7 B7_14
      go_region_held3 (fun w' => w'.cell? ⟨w.heap.size, 0, none⟩ = some (.int .i64 a) ∧ w'.cell? ⟨w.heap.size, 1, none⟩ = some (.int .i64 b)) (first | (go_keep; done) | ((try dsimp only); refine ⟨?_, ?_⟩ <;> first | (simp [*]; done) | ((repeat (first | refine Lib.cell?_alloc_some _ ?_ | (rw [World.cell?_setCell_other _ _ _ _ (by intro e; injection e with e1 e2; omega)]))); simp [*]; done)))
        (first | (go_at_call 26; refine (of_any _ _ _).mono ?_; rintro e w1 ⟨rfl, hg⟩; (have h1 : Gr w14 w1 := by first | with_reducible exact Gr.g1 hg | with_reducible exact Gr.g2 hg | exact Gr.g1 hg | exact Gr.g2 hg); (have HB1 := Lib.hid h1.below); (obtain ⟨_, cx1, cy1, _⟩ := B0_14.out.keep h1); (try (refine Blk.use (w := w1) (b := w14.heap.size) (x := .int .i64 0) (y := .int .i64 0) ?_ ?_; (focus (first | with_reducible exact Blk.k1 hg | exact Blk.k1 hg)); (intro T1a l1a m1a n1a o1a p1a))); clear hg h1) | (go_at_call 14; refine (MS.out _).mono ?_; rintro e w2 ⟨rfl, hg⟩; (have HB2 : Hid (Below w14.heap.size w14 w2) := by first | (with_reducible exact Lib.hid (bl_tr HB1.out hg)) | (with_reducible exact Lib.hid (bl_tr (bl_al HB1.out) hg))); (obtain ⟨_, cx2, cy2, _⟩ := B0_14.out.below HB2.out); (try (refine Blk.use (w := w2) (b := w14.heap.size) (x := .int .i64 0) (y := .int .i64 0) ?_ ?_; (focus (first | with_reducible exact T1a.out.below hg)); (intro T2a l2a m2a n2a o2a p2a))); (try (refine Blk.use (w := w2) (b := w1.heap.size) (x := .int .i64 0) (y := .int .i64 0) ?_ ?_; (focus (first | with_reducible exact Blk.b1 hg)); (intro T2b l2b m2b n2b o2b p2b))); clear hg))
      all_goals
        (go_wp2_with fail
         go_meet
         refine ⟨rfl, ?_⟩
         first
           | with_reducible exact One.new HB2.out
           | with_reducible exact One.old HB2.out T2a.out (Nat.le_refl _)
           | with_reducible exact One.old HB2.out T2b.out HB1.out.size)
    case rest =>
      obtain ⟨rfl, g9, rfl, hBk, hG⟩ := hcut
      obtain ⟨w15, hw⟩ : ∃ w15, w15 = wc := ⟨_, rfl⟩
      subst hw
      have T15 := Lib.hid (T14.out.trans (hG.mono T14.out.size))
      have B0_15 := Lib.hid (B0_14.out.below hG)
      have B1_15 := Lib.hid (B1_14.out.below hG)
      have B2_15 := Lib.hid (B2_14.out.below hG)
      have B3_15 := Lib.hid (B3_14.out.below hG)
      have B4_15 := Lib.hid (B4_14.out.below hG)
      have B5_15 := Lib.hid (B5_14.out.below hG)
      have B6_15 := Lib.hid (B6_14.out.below hG)
      have B7_15 := Lib.hid (B7_14.out.below hG)
      have B8_15 := Lib.hid hBk
      clear hG hBk MS
      clear bs0 bx0 by0 bf0 be0 bs1 bx1 by1 bf1 be1 bs2 bx2 by2 bf2 be2 bs3 bx3 by3 bf3 be3 bs4 bx4 by4 bf4 be4 bs5 bx5 by5 bf5 be5 bs6 bx6 by6 bf6 be6 bs7 bx7 by7 bf7 be7
      obtain ⟨bs0, bx0, by0, bf0, be0⟩ := B0_15.out
      obtain ⟨bs1, bx1, by1, bf1, be1⟩ := B1_15.out
      obtain ⟨bs2, bx2, by2, bf2, be2⟩ := B2_15.out
      obtain ⟨bs3, bx3, by3, bf3, be3⟩ := B3_15.out
      obtain ⟨bs4, bx4, by4, bf4, be4⟩ := B4_15.out
      obtain ⟨bs5, bx5, by5, bf5, be5⟩ := B5_15.out
      obtain ⟨bs6, bx6, by6, bf6, be6⟩ := B6_15.out
      obtain ⟨bs7, bx7, by7, bf7, be7⟩ := B7_15.out
      obtain ⟨bs8, bx8, by8, bf8, be8⟩ := B8_15.out
      go_upto_region 10 with fail
      go_cut [129] (fun s129 wx => s129 = .bool false ∧ Gr w15 wx)
      case first => as_aux_lemma =>
        clear A3 M3 A4 A5 M4 M5 M6 M7 A6
        go_region_held3 (fun w' => w'.cell? ⟨w.heap.size, 0, none⟩ = some (.int .i64 a) ∧ w'.cell? ⟨w.heap.size, 1, none⟩ = some (.int .i64 b) ∧ w'.cell? ⟨w6.heap.size, 0, none⟩ = some (.int .i64 an) ∧ w'.cell? ⟨w6.heap.size, 1, none⟩ = some (.int .i64 ad) ∧ w'.cell? ⟨w8.heap.size, 0, none⟩ = some (.int .i64 an) ∧ w'.cell? ⟨w8.heap.size, 1, none⟩ = some (.int .i64 ad) ∧ w'.cell? ⟨w10.heap.size, 0, none⟩ = some (.int .i64 cn) ∧ w'.cell? ⟨w10.heap.size, 1, none⟩ = some (.int .i64 cd) ∧ w'.cell? ⟨w12.heap.size, 0, none⟩ = some (.int .i64 cn) ∧ w'.cell? ⟨w12.heap.size, 1, none⟩ = some (.int .i64 cd) ∧ w'.cell? ⟨g8, 0, none⟩ = some (.int .i64 0) ∧ w'.cell? ⟨g8, 1, none⟩ = some (.int .i64 1) ∧ w'.cell? ⟨g9, 0, none⟩ = some (.int .i64 a) ∧ w'.cell? ⟨g9, 1, none⟩ = some (.int .i64 b)) (first | (go_keep; done) | ((try dsimp only); refine ⟨?_, ?_, ?_, ?_, ?_, ?_, ?_, ?_, ?_, ?_, ?_, ?_, ?_, ?_⟩ <;> first | assumption | simp [*]))
          (((go_at_call 26; refine (of_any _ _ _).mono ?_; rintro e wq ⟨rfl, hg⟩; (have GX := Lib.hid (Gr.g1 hg)); (obtain ⟨_, q0, r0, _⟩ := B0_15.out.keep GX.out); (obtain ⟨_, q3, r3, _⟩ := B3_15.out.keep GX.out); (obtain ⟨_, q4, r4, _⟩ := B4_15.out.keep GX.out); (obtain ⟨_, q5, r5, _⟩ := B5_15.out.keep GX.out); (obtain ⟨_, q6, r6, _⟩ := B6_15.out.keep GX.out); (obtain ⟨_, q7, r7, _⟩ := B7_15.out.keep GX.out); (obtain ⟨_, q8, r8, _⟩ := B8_15.out.keep GX.out); clear hg)))
        go_wp2_with fail
        go_meet
        exact ⟨rfl, GX.out⟩
      case rest =>
        obtain ⟨rfl, hG⟩ := hcut
        obtain ⟨w16, hw⟩ : ∃ w16, w16 = wc := ⟨_, rfl⟩
        subst hw
        replace hG := hG.below
        have T16 := Lib.hid (T15.out.trans (hG.mono T15.out.size))
        have B0_16 := Lib.hid (B0_15.out.below hG)
        have B1_16 := Lib.hid (B1_15.out.below hG)
        have B2_16 := Lib.hid (B2_15.out.below hG)
        have B3_16 := Lib.hid (B3_15.out.below hG)
        have B4_16 := Lib.hid (B4_15.out.below hG)
        have B5_16 := Lib.hid (B5_15.out.below hG)
        have B6_16 := Lib.hid (B6_15.out.below hG)
        have B7_16 := Lib.hid (B7_15.out.below hG)
        have B8_16 := Lib.hid (B8_15.out.below hG)
        clear hG
        clear bs0 bx0 by0 bf0 be0 bs1 bx1 by1 bf1 be1 bs2 bx2 by2 bf2 be2 bs3 bx3 by3 bf3 be3 bs4 bx4 by4 bf4 be4 bs5 bx5 by5 bf5 be5 bs6 bx6 by6 bf6 be6 bs7 bx7 by7 bf7 be7 bs8 bx8 by8 bf8 be8
        obtain ⟨bs0, bx0, by0, bf0, be0⟩ := B0_16.out
        obtain ⟨bs1, bx1, by1, bf1, be1⟩ := B1_16.out
        obtain ⟨bs2, bx2, by2, bf2, be2⟩ := B2_16.out
        obtain ⟨bs3, bx3, by3, bf3, be3⟩ := B3_16.out
        obtain ⟨bs4, bx4, by4, bf4, be4⟩ := B4_16.out
        obtain ⟨bs5, bx5, by5, bf5, be5⟩ := B5_16.out
        obtain ⟨bs6, bx6, by6, bf6, be6⟩ := B6_16.out
        obtain ⟨bs7, bx7, by7, bf7, be7⟩ := B7_16.out
        obtain ⟨bs8, bx8, by8, bf8, be8⟩ := B8_16.out
        clear bs0 bx0 by0 bf0 be0 bs1 bx1 by1 bf1 be1 bs2 bx2 by2 bf2 be2 bs3 bx3 by3 bf3 be3 bs4 bx4 by4 bf4 be4 bs5 bx5 by5 bf5 be5 bs6 bx6 by6 bf6 be6 bs7 bx7 by7 bf7 be7 bs8 bx8 by8 bf8 be8
        clear B4_16
        clear B6_16
        clear B7_16
        clear B8_16
        obtain ⟨bs0, bx0, by0, bf0, be0⟩ := B0_16.out
        obtain ⟨bs1, bx1, by1, bf1, be1⟩ := B1_16.out
        obtain ⟨bs2, bx2, by2, bf2, be2⟩ := B2_16.out
        obtain ⟨bs3, bx3, by3, bf3, be3⟩ := B3_16.out
        obtain ⟨bs5, bx5, by5, bf5, be5⟩ := B5_16.out
        go_wp2_with fail
        refine (A3.out _).mono ?_
        rintro e17 w17 ⟨rfl, hg⟩
        have T17 := Lib.hid (T16.out.trans (hg.mono T16.out.size))
        have B0_17 := Lib.hid (B0_16.out.below hg)
        have B1_17 := Lib.hid (B1_16.out.below hg)
        have B2_17 := Lib.hid (B2_16.out.below hg)
        have B3_17 := Lib.hid (B3_16.out.below hg)
        have B5_17 := Lib.hid (B5_16.out.below hg)
        clear hg
        clear bs0 bx0 by0 bf0 be0 bs1 bx1 by1 bf1 be1 bs2 bx2 by2 bf2 be2 bs3 bx3 by3 bf3 be3 bs5 bx5 by5 bf5 be5
        obtain ⟨bs0, bx0, by0, bf0, be0⟩ := B0_17.out
        obtain ⟨bs1, bx1, by1, bf1, be1⟩ := B1_17.out
        obtain ⟨bs2, bx2, by2, bf2, be2⟩ := B2_17.out
        obtain ⟨bs3, bx3, by3, bf3, be3⟩ := B3_17.out
        obtain ⟨bs5, bx5, by5, bf5, be5⟩ := B5_17.out
        go_wp2_with fail
        have G18 : Gr w17 (w17.alloc (.cells #[.int .i64 sn, .int .i64 sd] 23)) := (Gr.one _ _)
        have T18 := Lib.hid (T17.out.trans (G18.below.mono T17.out.size))
        have B0_18 := Lib.hid (B0_17.out.keep G18)
        have B1_18 := Lib.hid (B1_17.out.keep G18)
        have B2_18 := Lib.hid (B2_17.out.keep G18)
        have B3_18 := Lib.hid (B3_17.out.keep G18)
        have B5_18 := Lib.hid (B5_17.out.keep G18)
        have B9_18 : Hid (Blk (w17.alloc (.cells #[.int .i64 sn, .int .i64 sd] 23)) (w17.heap.size) (.int .i64 sn) (.int .i64 sd)) := Lib.hid (Blk.at00 _ _ _ _)
        generalize hw18 : (w17.alloc (.cells #[.int .i64 sn, .int .i64 sd] 23)) = w18 at *
        clear hw18 G18
        clear bs0 bx0 by0 bf0 be0 bs1 bx1 by1 bf1 be1 bs2 bx2 by2 bf2 be2 bs3 bx3 by3 bf3 be3 bs5 bx5 by5 bf5 be5
        obtain ⟨bs0, bx0, by0, bf0, be0⟩ := B0_18.out
        obtain ⟨bs1, bx1, by1, bf1, be1⟩ := B1_18.out
        obtain ⟨bs2, bx2, by2, bf2, be2⟩ := B2_18.out
        obtain ⟨bs3, bx3, by3, bf3, be3⟩ := B3_18.out
        obtain ⟨bs5, bx5, by5, bf5, be5⟩ := B5_18.out
        obtain ⟨bs9, bx9, by9, bf9, be9⟩ := B9_18.out
        refine (M3.out _).mono ?_
        rintro e19 w19 ⟨rfl, hg⟩
        have T19 := Lib.hid (T18.out.trans (hg.mono T18.out.size))
        have B0_19 := Lib.hid (B0_18.out.below hg)
        have B1_19 := Lib.hid (B1_18.out.below hg)
        have B2_19 := Lib.hid (B2_18.out.below hg)
        have B3_19 := Lib.hid (B3_18.out.below hg)
        have B5_19 := Lib.hid (B5_18.out.below hg)
        have B9_19 := Lib.hid (B9_18.out.below hg)
        clear hg
        clear bs0 bx0 by0 bf0 be0 bs1 bx1 by1 bf1 be1 bs2 bx2 by2 bf2 be2 bs3 bx3 by3 bf3 be3 bs5 bx5 by5 bf5 be5 bs9 bx9 by9 bf9 be9
        obtain ⟨bs0, bx0, by0, bf0, be0⟩ := B0_19.out
        obtain ⟨bs1, bx1, by1, bf1, be1⟩ := B1_19.out
        obtain ⟨bs2, bx2, by2, bf2, be2⟩ := B2_19.out
        obtain ⟨bs3, bx3, by3, bf3, be3⟩ := B3_19.out
        obtain ⟨bs5, bx5, by5, bf5, be5⟩ := B5_19.out
        obtain ⟨bs9, bx9, by9, bf9, be9⟩ := B9_19.out
        go_upto_region 14 with fail
        have G20 : Gr w19 (w19.alloc (.cells #[.int .i64 tn, .int .i64 td] 23)) := (Gr.one _ _)
        have T20 := Lib.hid (T19.out.trans (G20.below.mono T19.out.size))
        have B0_20 := Lib.hid (B0_19.out.keep G20)
        have B1_20 := Lib.hid (B1_19.out.keep G20)
        have B2_20 := Lib.hid (B2_19.out.keep G20)
        have B3_20 := Lib.hid (B3_19.out.keep G20)
        have B5_20 := Lib.hid (B5_19.out.keep G20)
        have B9_20 := Lib.hid (B9_19.out.keep G20)
        have B10_20 : Hid (Blk (w19.alloc (.cells #[.int .i64 tn, .int .i64 td] 23)) (w19.heap.size) (.int .i64 tn) (.int .i64 td)) := Lib.hid (Blk.at00 _ _ _ _)
        generalize hw20 : (w19.alloc (.cells #[.int .i64 tn, .int .i64 td] 23)) = w20 at *
        clear hw20 G20
        clear bs0 bx0 by0 bf0 be0 bs1 bx1 by1 bf1 be1 bs2 bx2 by2 bf2 be2 bs3 bx3 by3 bf3 be3 bs5 bx5 by5 bf5 be5 bs9 bx9 by9 bf9 be9
        obtain ⟨bs0, bx0, by0, bf0, be0⟩ := B0_20.out
        obtain ⟨bs1, bx1, by1, bf1, be1⟩ := B1_20.out
        obtain ⟨bs2, bx2, by2, bf2, be2⟩ := B2_20.out
        obtain ⟨bs3, bx3, by3, bf3, be3⟩ := B3_20.out
        obtain ⟨bs5, bx5, by5, bf5, be5⟩ := B5_20.out
        obtain ⟨bs9, bx9, by9, bf9, be9⟩ := B9_20.out
        obtain ⟨bs10, bx10, by10, bf10, be10⟩ := B10_20.out
        clear A3 M3
        go_cut [147] (fun sb wx => sb = .bool (ae == 0 && se == 0) ∧ Gr w20 wx)
        case first => as_aux_lemma =>
          by_cases z1 : ae = 0
          · by_cases z2 : se = 0
            · subst z1 z2
              go_wp2_with fail
              go_meet
              exact ⟨rfl, Gr.refl _⟩
            · subst z1
              have z3 : (se == 0) = false := by simp [z2]
              go_wp2_with fail
              go_meet
              exact ⟨by first | rfl | (rw [z3]; rfl) | simp [z2], Gr.refl _⟩
          · have z3 : (ae == 0) = false := by simp [z1]
            go_wp2_with fail
            go_meet
            exact ⟨by first | rfl | (rw [z3]; rfl) | simp [z1], Gr.refl _⟩
        case rest =>
          obtain ⟨rfl, hG⟩ := hcut
          obtain ⟨w21, hw⟩ : ∃ w21, w21 = wc := ⟨_, rfl⟩
          subst hw
          replace hG := hG.below
          have T21 := Lib.hid (T20.out.trans (hG.mono T20.out.size))
          have B0_21 := Lib.hid (B0_20.out.below hG)
          have B1_21 := Lib.hid (B1_20.out.below hG)
          have B2_21 := Lib.hid (B2_20.out.below hG)
          have B3_21 := Lib.hid (B3_20.out.below hG)
          have B5_21 := Lib.hid (B5_20.out.below hG)
          have B9_21 := Lib.hid (B9_20.out.below hG)
          have B10_21 := Lib.hid (B10_20.out.below hG)
          clear hG
          clear bs0 bx0 by0 bf0 be0 bs1 bx1 by1 bf1 be1 bs2 bx2 by2 bf2 be2 bs3 bx3 by3 bf3 be3 bs5 bx5 by5 bf5 be5 bs9 bx9 by9 bf9 be9 bs10 bx10 by10 bf10 be10
          obtain ⟨bs0, bx0, by0, bf0, be0⟩ := B0_21.out
          obtain ⟨bs1, bx1, by1, bf1, be1⟩ := B1_21.out
          obtain ⟨bs2, bx2, by2, bf2, be2⟩ := B2_21.out
          obtain ⟨bs3, bx3, by3, bf3, be3⟩ := B3_21.out
          obtain ⟨bs5, bx5, by5, bf5, be5⟩ := B5_21.out
          obtain ⟨bs9, bx9, by9, bf9, be9⟩ := B9_21.out
          obtain ⟨bs10, bx10, by10, bf10, be10⟩ := B10_21.out
          go_upto_if 147 with fail
          go_cut [21] (fun s21 wx => s21 = .int .i64 se ∧ Below w21.heap.size w21 wx)
          case first => as_aux_lemma =>
            have T0' := Lib.hid (Below.refl w21.heap.size w21)
            by_cases zz : ae = 0 ∧ se = 0
            · obtain ⟨rfl, rfl⟩ := zz
              have K1 := Lib.hid (A4.out rfl rfl)
              have K2 := Lib.hid (A5.out rfl rfl)
              clear A4 A5 M4 M5 M6 M7 A6
              go_wp2_with fail
              refine (K1.out _).mono ?_
              rintro e22 w22 ⟨rfl, hg⟩
              have T22 := Lib.hid (T21.out.trans (hg.mono T21.out.size))
              have U22 := Lib.hid (T0'.out.trans (hg.mono T0'.out.size))
              have B0_22 := Lib.hid (B0_21.out.below hg)
              have B1_22 := Lib.hid (B1_21.out.below hg)
              have B2_22 := Lib.hid (B2_21.out.below hg)
              have B3_22 := Lib.hid (B3_21.out.below hg)
              have B5_22 := Lib.hid (B5_21.out.below hg)
              have B9_22 := Lib.hid (B9_21.out.below hg)
              have B10_22 := Lib.hid (B10_21.out.below hg)
              clear hg
              clear bs0 bx0 by0 bf0 be0 bs1 bx1 by1 bf1 be1 bs2 bx2 by2 bf2 be2 bs3 bx3 by3 bf3 be3 bs5 bx5 by5 bf5 be5 bs9 bx9 by9 bf9 be9 bs10 bx10 by10 bf10 be10
              obtain ⟨bs0, bx0, by0, bf0, be0⟩ := B0_22.out
              obtain ⟨bs1, bx1, by1, bf1, be1⟩ := B1_22.out
              obtain ⟨bs2, bx2, by2, bf2, be2⟩ := B2_22.out
              obtain ⟨bs3, bx3, by3, bf3, be3⟩ := B3_22.out
              obtain ⟨bs5, bx5, by5, bf5, be5⟩ := B5_22.out
              obtain ⟨bs9, bx9, by9, bf9, be9⟩ := B9_22.out
              obtain ⟨bs10, bx10, by10, bf10, be10⟩ := B10_22.out
              go_wp2_with fail
              have G23 : Gr w22 (w22.alloc (.cells #[.int .i64 xn, .int .i64 xd] 23)) := (Gr.one _ _)
              have T23 := Lib.hid (T22.out.trans (G23.below.mono T22.out.size))
              have U23 := Lib.hid (U22.out.trans (G23.below.mono U22.out.size))
              have B0_23 := Lib.hid (B0_22.out.keep G23)
              have B1_23 := Lib.hid (B1_22.out.keep G23)
              have B2_23 := Lib.hid (B2_22.out.keep G23)
              have B3_23 := Lib.hid (B3_22.out.keep G23)
              have B5_23 := Lib.hid (B5_22.out.keep G23)
              have B9_23 := Lib.hid (B9_22.out.keep G23)
              have B10_23 := Lib.hid (B10_22.out.keep G23)
              have B11_23 : Hid (Blk (w22.alloc (.cells #[.int .i64 xn, .int .i64 xd] 23)) (w22.heap.size) (.int .i64 xn) (.int .i64 xd)) := Lib.hid (Blk.at00 _ _ _ _)
              generalize hw23 : (w22.alloc (.cells #[.int .i64 xn, .int .i64 xd] 23)) = w23 at *
              clear hw23 G23
              clear bs0 bx0 by0 bf0 be0 bs1 bx1 by1 bf1 be1 bs2 bx2 by2 bf2 be2 bs3 bx3 by3 bf3 be3 bs5 bx5 by5 bf5 be5 bs9 bx9 by9 bf9 be9 bs10 bx10 by10 bf10 be10
              obtain ⟨bs0, bx0, by0, bf0, be0⟩ := B0_23.out
              obtain ⟨bs1, bx1, by1, bf1, be1⟩ := B1_23.out
              obtain ⟨bs2, bx2, by2, bf2, be2⟩ := B2_23.out
              obtain ⟨bs3, bx3, by3, bf3, be3⟩ := B3_23.out
              obtain ⟨bs5, bx5, by5, bf5, be5⟩ := B5_23.out
              obtain ⟨bs9, bx9, by9, bf9, be9⟩ := B9_23.out
              obtain ⟨bs10, bx10, by10, bf10, be10⟩ := B10_23.out
              obtain ⟨bs11, bx11, by11, bf11, be11⟩ := B11_23.out
              refine (K2.out _).mono ?_
              rintro e24 w24 ⟨rfl, hg⟩
              have T24 := Lib.hid (T23.out.trans (hg.mono T23.out.size))
              have U24 := Lib.hid (U23.out.trans (hg.mono U23.out.size))
              have B0_24 := Lib.hid (B0_23.out.below hg)
              have B1_24 := Lib.hid (B1_23.out.below hg)
              have B2_24 := Lib.hid (B2_23.out.below hg)
              have B3_24 := Lib.hid (B3_23.out.below hg)
              have B5_24 := Lib.hid (B5_23.out.below hg)
              have B9_24 := Lib.hid (B9_23.out.below hg)
              have B10_24 := Lib.hid (B10_23.out.below hg)
              have B11_24 := Lib.hid (B11_23.out.below hg)
              clear hg
              clear bs0 bx0 by0 bf0 be0 bs1 bx1 by1 bf1 be1 bs2 bx2 by2 bf2 be2 bs3 bx3 by3 bf3 be3 bs5 bx5 by5 bf5 be5 bs9 bx9 by9 bf9 be9 bs10 bx10 by10 bf10 be10 bs11 bx11 by11 bf11 be11
              obtain ⟨bs0, bx0, by0, bf0, be0⟩ := B0_24.out
              obtain ⟨bs1, bx1, by1, bf1, be1⟩ := B1_24.out
              obtain ⟨bs2, bx2, by2, bf2, be2⟩ := B2_24.out
              obtain ⟨bs3, bx3, by3, bf3, be3⟩ := B3_24.out
              obtain ⟨bs5, bx5, by5, bf5, be5⟩ := B5_24.out
              obtain ⟨bs9, bx9, by9, bf9, be9⟩ := B9_24.out
              obtain ⟨bs10, bx10, by10, bf10, be10⟩ := B10_24.out
              obtain ⟨bs11, bx11, by11, bf11, be11⟩ := B11_24.out
              go_wp2_with fail
              have G25 : Gr w24 (w24.alloc (.cells #[.int .i64 xn, .int .i64 xd] 23)) := (Gr.one _ _)
              have T25 := Lib.hid (T24.out.trans (G25.below.mono T24.out.size))
              have U25 := Lib.hid (U24.out.trans (G25.below.mono U24.out.size))
              have B0_25 := Lib.hid (B0_24.out.keep G25)
              have B1_25 := Lib.hid (B1_24.out.keep G25)
              have B2_25 := Lib.hid (B2_24.out.keep G25)
              have B3_25 := Lib.hid (B3_24.out.keep G25)
              have B5_25 := Lib.hid (B5_24.out.keep G25)
              have B9_25 := Lib.hid (B9_24.out.keep G25)
              have B10_25 := Lib.hid (B10_24.out.keep G25)
              have B11_25 := Lib.hid (B11_24.out.keep G25)
              have B12_25 : Hid (Blk (w24.alloc (.cells #[.int .i64 xn, .int .i64 xd] 23)) (w24.heap.size) (.int .i64 xn) (.int .i64 xd)) := Lib.hid (Blk.at00 _ _ _ _)
              generalize hw25 : (w24.alloc (.cells #[.int .i64 xn, .int .i64 xd] 23)) = w25 at *
              clear hw25 G25
              clear bs0 bx0 by0 bf0 be0 bs1 bx1 by1 bf1 be1 bs2 bx2 by2 bf2 be2 bs3 bx3 by3 bf3 be3 bs5 bx5 by5 bf5 be5 bs9 bx9 by9 bf9 be9 bs10 bx10 by10 bf10 be10 bs11 bx11 by11 bf11 be11
              obtain ⟨bs0, bx0, by0, bf0, be0⟩ := B0_25.out
              obtain ⟨bs1, bx1, by1, bf1, be1⟩ := B1_25.out
              obtain ⟨bs2, bx2, by2, bf2, be2⟩ := B2_25.out
              obtain ⟨bs3, bx3, by3, bf3, be3⟩ := B3_25.out
              obtain ⟨bs5, bx5, by5, bf5, be5⟩ := B5_25.out
              obtain ⟨bs9, bx9, by9, bf9, be9⟩ := B9_25.out
              obtain ⟨bs10, bx10, by10, bf10, be10⟩ := B10_25.out
              obtain ⟨bs11, bx11, by11, bf11, be11⟩ := B11_25.out
              obtain ⟨bs12, bx12, by12, bf12, be12⟩ := B12_25.out
              go_wp2_with fail
              go_meet
              exact ⟨rfl, U25.out⟩
            · have z3 : (ae == 0 && se == 0) = false := by rw [Bool.and_eq_false_iff]; by_cases y1 : ae = 0; exact Or.inr (by simp; exact fun y2 => zz ⟨y1, y2⟩); exact Or.inl (by simp [y1])
              rw [z3]
              clear zz A4 A5 M4 M5 M6 M7 A6
              go_wp2_with fail
              go_meet
              exact ⟨rfl, T0'.out⟩
          case rest =>
            obtain ⟨rfl, hG⟩ := hcut
            obtain ⟨w22, hw⟩ : ∃ w22, w22 = wc := ⟨_, rfl⟩
            subst hw
            have T22 := Lib.hid (T21.out.trans (hG.mono T21.out.size))
            have B0_22 := Lib.hid (B0_21.out.below hG)
            have B1_22 := Lib.hid (B1_21.out.below hG)
            have B2_22 := Lib.hid (B2_21.out.below hG)
            have B3_22 := Lib.hid (B3_21.out.below hG)
            have B5_22 := Lib.hid (B5_21.out.below hG)
            have B9_22 := Lib.hid (B9_21.out.below hG)
            have B10_22 := Lib.hid (B10_21.out.below hG)
            clear hG
            clear bs0 bx0 by0 bf0 be0 bs1 bx1 by1 bf1 be1 bs2 bx2 by2 bf2 be2 bs3 bx3 by3 bf3 be3 bs5 bx5 by5 bf5 be5 bs9 bx9 by9 bf9 be9 bs10 bx10 by10 bf10 be10
            obtain ⟨bs0, bx0, by0, bf0, be0⟩ := B0_22.out
            obtain ⟨bs1, bx1, by1, bf1, be1⟩ := B1_22.out
            obtain ⟨bs2, bx2, by2, bf2, be2⟩ := B2_22.out
            obtain ⟨bs3, bx3, by3, bf3, be3⟩ := B3_22.out
            obtain ⟨bs5, bx5, by5, bf5, be5⟩ := B5_22.out
            obtain ⟨bs9, bx9, by9, bf9, be9⟩ := B9_22.out
            obtain ⟨bs10, bx10, by10, bf10, be10⟩ := B10_22.out
            clear A4 A5
            go_upto_region 19 with fail
            go_cut [173] (fun sb wx => sb = .bool (ce == 0 && te == 0) ∧ Gr w22 wx)
            case first => as_aux_lemma =>
              by_cases z1 : ce = 0
              · by_cases z2 : te = 0
                · subst z1 z2
                  go_wp2_with fail
                  go_meet
                  exact ⟨rfl, Gr.refl _⟩
                · subst z1
                  have z3 : (te == 0) = false := by simp [z2]
                  go_wp2_with fail
                  go_meet
                  exact ⟨by first | rfl | (rw [z3]; rfl) | simp [z2], Gr.refl _⟩
              · have z3 : (ce == 0) = false := by simp [z1]
                go_wp2_with fail
                go_meet
                exact ⟨by first | rfl | (rw [z3]; rfl) | simp [z1], Gr.refl _⟩
            case rest =>
              obtain ⟨rfl, hG⟩ := hcut
              obtain ⟨w23, hw⟩ : ∃ w23, w23 = wc := ⟨_, rfl⟩
              subst hw
              replace hG := hG.below
              have T23 := Lib.hid (T22.out.trans (hG.mono T22.out.size))
              have B0_23 := Lib.hid (B0_22.out.below hG)
              have B1_23 := Lib.hid (B1_22.out.below hG)
              have B2_23 := Lib.hid (B2_22.out.below hG)
              have B3_23 := Lib.hid (B3_22.out.below hG)
              have B5_23 := Lib.hid (B5_22.out.below hG)
              have B9_23 := Lib.hid (B9_22.out.below hG)
              have B10_23 := Lib.hid (B10_22.out.below hG)
              clear hG
              clear bs0 bx0 by0 bf0 be0 bs1 bx1 by1 bf1 be1 bs2 bx2 by2 bf2 be2 bs3 bx3 by3 bf3 be3 bs5 bx5 by5 bf5 be5 bs9 bx9 by9 bf9 be9 bs10 bx10 by10 bf10 be10
              obtain ⟨bs0, bx0, by0, bf0, be0⟩ := B0_23.out
              obtain ⟨bs1, bx1, by1, bf1, be1⟩ := B1_23.out
              obtain ⟨bs2, bx2, by2, bf2, be2⟩ := B2_23.out
              obtain ⟨bs3, bx3, by3, bf3, be3⟩ := B3_23.out
              obtain ⟨bs5, bx5, by5, bf5, be5⟩ := B5_23.out
              obtain ⟨bs9, bx9, by9, bf9, be9⟩ := B9_23.out
              obtain ⟨bs10, bx10, by10, bf10, be10⟩ := B10_23.out
              go_upto_if 173 with fail
              go_cut [21] (fun s21 wx => s21 = .int .i64 se ∧ Below w23.heap.size w23 wx)
              case first => as_aux_lemma =>
                have T0' := Lib.hid (Below.refl w23.heap.size w23)
                by_cases zz : ce = 0 ∧ te = 0
                · obtain ⟨rfl, rfl⟩ := zz
                  have K1 := Lib.hid (M4.out rfl rfl)
                  have K2 := Lib.hid (M5.out rfl rfl)
                  clear M4 M5 M6 M7 A6
                  go_wp2_with fail
                  refine (K1.out _).mono ?_
                  rintro e24 w24 ⟨rfl, hg⟩
                  have T24 := Lib.hid (T23.out.trans (hg.mono T23.out.size))
                  have U24 := Lib.hid (T0'.out.trans (hg.mono T0'.out.size))
                  have B0_24 := Lib.hid (B0_23.out.below hg)
                  have B1_24 := Lib.hid (B1_23.out.below hg)
                  have B2_24 := Lib.hid (B2_23.out.below hg)
                  have B3_24 := Lib.hid (B3_23.out.below hg)
                  have B5_24 := Lib.hid (B5_23.out.below hg)
                  have B9_24 := Lib.hid (B9_23.out.below hg)
                  have B10_24 := Lib.hid (B10_23.out.below hg)
                  clear hg
                  clear bs0 bx0 by0 bf0 be0 bs1 bx1 by1 bf1 be1 bs2 bx2 by2 bf2 be2 bs3 bx3 by3 bf3 be3 bs5 bx5 by5 bf5 be5 bs9 bx9 by9 bf9 be9 bs10 bx10 by10 bf10 be10
                  obtain ⟨bs0, bx0, by0, bf0, be0⟩ := B0_24.out
                  obtain ⟨bs1, bx1, by1, bf1, be1⟩ := B1_24.out
                  obtain ⟨bs2, bx2, by2, bf2, be2⟩ := B2_24.out
                  obtain ⟨bs3, bx3, by3, bf3, be3⟩ := B3_24.out
                  obtain ⟨bs5, bx5, by5, bf5, be5⟩ := B5_24.out
                  obtain ⟨bs9, bx9, by9, bf9, be9⟩ := B9_24.out
                  obtain ⟨bs10, bx10, by10, bf10, be10⟩ := B10_24.out
                  go_wp2_with fail
                  have G25 : Gr w24 (w24.alloc (.cells #[.int .i64 yn, .int .i64 yd] 23)) := (Gr.one _ _)
                  have T25 := Lib.hid (T24.out.trans (G25.below.mono T24.out.size))
                  have U25 := Lib.hid (U24.out.trans (G25.below.mono U24.out.size))
                  have B0_25 := Lib.hid (B0_24.out.keep G25)
                  have B1_25 := Lib.hid (B1_24.out.keep G25)
                  have B2_25 := Lib.hid (B2_24.out.keep G25)
                  have B3_25 := Lib.hid (B3_24.out.keep G25)
                  have B5_25 := Lib.hid (B5_24.out.keep G25)
                  have B9_25 := Lib.hid (B9_24.out.keep G25)
                  have B10_25 := Lib.hid (B10_24.out.keep G25)
                  have B11_25 : Hid (Blk (w24.alloc (.cells #[.int .i64 yn, .int .i64 yd] 23)) (w24.heap.size) (.int .i64 yn) (.int .i64 yd)) := Lib.hid (Blk.at00 _ _ _ _)
                  generalize hw25 : (w24.alloc (.cells #[.int .i64 yn, .int .i64 yd] 23)) = w25 at *
                  clear hw25 G25
                  clear bs0 bx0 by0 bf0 be0 bs1 bx1 by1 bf1 be1 bs2 bx2 by2 bf2 be2 bs3 bx3 by3 bf3 be3 bs5 bx5 by5 bf5 be5 bs9 bx9 by9 bf9 be9 bs10 bx10 by10 bf10 be10
                  obtain ⟨bs0, bx0, by0, bf0, be0⟩ := B0_25.out
                  obtain ⟨bs1, bx1, by1, bf1, be1⟩ := B1_25.out
                  obtain ⟨bs2, bx2, by2, bf2, be2⟩ := B2_25.out
                  obtain ⟨bs3, bx3, by3, bf3, be3⟩ := B3_25.out
                  obtain ⟨bs5, bx5, by5, bf5, be5⟩ := B5_25.out
                  obtain ⟨bs9, bx9, by9, bf9, be9⟩ := B9_25.out
                  obtain ⟨bs10, bx10, by10, bf10, be10⟩ := B10_25.out
                  obtain ⟨bs11, bx11, by11, bf11, be11⟩ := B11_25.out
                  refine (K2.out _).mono ?_
                  rintro e26 w26 ⟨rfl, hg⟩
                  have T26 := Lib.hid (T25.out.trans (hg.mono T25.out.size))
                  have U26 := Lib.hid (U25.out.trans (hg.mono U25.out.size))
                  have B0_26 := Lib.hid (B0_25.out.below hg)
                  have B1_26 := Lib.hid (B1_25.out.below hg)
                  have B2_26 := Lib.hid (B2_25.out.below hg)
                  have B3_26 := Lib.hid (B3_25.out.below hg)
                  have B5_26 := Lib.hid (B5_25.out.below hg)
                  have B9_26 := Lib.hid (B9_25.out.below hg)
                  have B10_26 := Lib.hid (B10_25.out.below hg)
                  have B11_26 := Lib.hid (B11_25.out.below hg)
                  clear hg
                  clear bs0 bx0 by0 bf0 be0 bs1 bx1 by1 bf1 be1 bs2 bx2 by2 bf2 be2 bs3 bx3 by3 bf3 be3 bs5 bx5 by5 bf5 be5 bs9 bx9 by9 bf9 be9 bs10 bx10 by10 bf10 be10 bs11 bx11 by11 bf11 be11
                  obtain ⟨bs0, bx0, by0, bf0, be0⟩ := B0_26.out
                  obtain ⟨bs1, bx1, by1, bf1, be1⟩ := B1_26.out
                  obtain ⟨bs2, bx2, by2, bf2, be2⟩ := B2_26.out
                  obtain ⟨bs3, bx3, by3, bf3, be3⟩ := B3_26.out
                  obtain ⟨bs5, bx5, by5, bf5, be5⟩ := B5_26.out
                  obtain ⟨bs9, bx9, by9, bf9, be9⟩ := B9_26.out
                  obtain ⟨bs10, bx10, by10, bf10, be10⟩ := B10_26.out
                  obtain ⟨bs11, bx11, by11, bf11, be11⟩ := B11_26.out
                  go_wp2_with fail
                  have G27 : Gr w26 (w26.alloc (.cells #[.int .i64 yn, .int .i64 yd] 23)) := (Gr.one _ _)
                  have T27 := Lib.hid (T26.out.trans (G27.below.mono T26.out.size))
                  have U27 := Lib.hid (U26.out.trans (G27.below.mono U26.out.size))
                  have B0_27 := Lib.hid (B0_26.out.keep G27)
                  have B1_27 := Lib.hid (B1_26.out.keep G27)
                  have B2_27 := Lib.hid (B2_26.out.keep G27)
                  have B3_27 := Lib.hid (B3_26.out.keep G27)
                  have B5_27 := Lib.hid (B5_26.out.keep G27)
                  have B9_27 := Lib.hid (B9_26.out.keep G27)
                  have B10_27 := Lib.hid (B10_26.out.keep G27)
                  have B11_27 := Lib.hid (B11_26.out.keep G27)
                  have B12_27 : Hid (Blk (w26.alloc (.cells #[.int .i64 yn, .int .i64 yd] 23)) (w26.heap.size) (.int .i64 yn) (.int .i64 yd)) := Lib.hid (Blk.at00 _ _ _ _)
                  generalize hw27 : (w26.alloc (.cells #[.int .i64 yn, .int .i64 yd] 23)) = w27 at *
                  clear hw27 G27
                  clear bs0 bx0 by0 bf0 be0 bs1 bx1 by1 bf1 be1 bs2 bx2 by2 bf2 be2 bs3 bx3 by3 bf3 be3 bs5 bx5 by5 bf5 be5 bs9 bx9 by9 bf9 be9 bs10 bx10 by10 bf10 be10 bs11 bx11 by11 bf11 be11
                  obtain ⟨bs0, bx0, by0, bf0, be0⟩ := B0_27.out
                  obtain ⟨bs1, bx1, by1, bf1, be1⟩ := B1_27.out
                  obtain ⟨bs2, bx2, by2, bf2, be2⟩ := B2_27.out
                  obtain ⟨bs3, bx3, by3, bf3, be3⟩ := B3_27.out
                  obtain ⟨bs5, bx5, by5, bf5, be5⟩ := B5_27.out
                  obtain ⟨bs9, bx9, by9, bf9, be9⟩ := B9_27.out
                  obtain ⟨bs10, bx10, by10, bf10, be10⟩ := B10_27.out
                  obtain ⟨bs11, bx11, by11, bf11, be11⟩ := B11_27.out
                  obtain ⟨bs12, bx12, by12, bf12, be12⟩ := B12_27.out
                  go_wp2_with fail
                  go_meet
                  exact ⟨rfl, U27.out⟩
                · have z3 : (ce == 0 && te == 0) = false := by rw [Bool.and_eq_false_iff]; by_cases y1 : ce = 0; exact Or.inr (by simp; exact fun y2 => zz ⟨y1, y2⟩); exact Or.inl (by simp [y1])
                  rw [z3]
                  clear zz M4 M5 M6 M7 A6
                  go_wp2_with fail
                  go_meet
                  exact ⟨rfl, T0'.out⟩
              case rest =>
                obtain ⟨rfl, hG⟩ := hcut
                obtain ⟨w24, hw⟩ : ∃ w24, w24 = wc := ⟨_, rfl⟩
                subst hw
                have T24 := Lib.hid (T23.out.trans (hG.mono T23.out.size))
                have B0_24 := Lib.hid (B0_23.out.below hG)
                have B1_24 := Lib.hid (B1_23.out.below hG)
                have B2_24 := Lib.hid (B2_23.out.below hG)
                have B3_24 := Lib.hid (B3_23.out.below hG)
                have B5_24 := Lib.hid (B5_23.out.below hG)
                have B9_24 := Lib.hid (B9_23.out.below hG)
                have B10_24 := Lib.hid (B10_23.out.below hG)
                clear hG
                clear bs0 bx0 by0 bf0 be0 bs1 bx1 by1 bf1 be1 bs2 bx2 by2 bf2 be2 bs3 bx3 by3 bf3 be3 bs5 bx5 by5 bf5 be5 bs9 bx9 by9 bf9 be9 bs10 bx10 by10 bf10 be10
                obtain ⟨bs0, bx0, by0, bf0, be0⟩ := B0_24.out
                obtain ⟨bs1, bx1, by1, bf1, be1⟩ := B1_24.out
                obtain ⟨bs2, bx2, by2, bf2, be2⟩ := B2_24.out
                obtain ⟨bs3, bx3, by3, bf3, be3⟩ := B3_24.out
                obtain ⟨bs5, bx5, by5, bf5, be5⟩ := B5_24.out
                obtain ⟨bs9, bx9, by9, bf9, be9⟩ := B9_24.out
                obtain ⟨bs10, bx10, by10, bf10, be10⟩ := B10_24.out
                clear M4 M5
                go_wp2_with fail
                refine (M6.out _).mono ?_
                rintro e25 w25 ⟨rfl, hg⟩
                have T25 := Lib.hid (T24.out.trans (hg.mono T24.out.size))
                have B0_25 := Lib.hid (B0_24.out.below hg)
                have B1_25 := Lib.hid (B1_24.out.below hg)
                have B2_25 := Lib.hid (B2_24.out.below hg)
                have B3_25 := Lib.hid (B3_24.out.below hg)
                have B5_25 := Lib.hid (B5_24.out.below hg)
                have B9_25 := Lib.hid (B9_24.out.below hg)
                have B10_25 := Lib.hid (B10_24.out.below hg)
                clear hg
                clear bs0 bx0 by0 bf0 be0 bs1 bx1 by1 bf1 be1 bs2 bx2 by2 bf2 be2 bs3 bx3 by3 bf3 be3 bs5 bx5 by5 bf5 be5 bs9 bx9 by9 bf9 be9 bs10 bx10 by10 bf10 be10
                obtain ⟨bs0, bx0, by0, bf0, be0⟩ := B0_25.out
                obtain ⟨bs1, bx1, by1, bf1, be1⟩ := B1_25.out
                obtain ⟨bs2, bx2, by2, bf2, be2⟩ := B2_25.out
                obtain ⟨bs3, bx3, by3, bf3, be3⟩ := B3_25.out
                obtain ⟨bs5, bx5, by5, bf5, be5⟩ := B5_25.out
                obtain ⟨bs9, bx9, by9, bf9, be9⟩ := B9_25.out
                obtain ⟨bs10, bx10, by10, bf10, be10⟩ := B10_25.out
                go_upto_region 25 with fail
                have G26 : Gr w25 (w25.alloc (.cells #[.int .i64 un, .int .i64 ud] 23)) := (Gr.one _ _)
                have T26 := Lib.hid (T25.out.trans (G26.below.mono T25.out.size))
                have B0_26 := Lib.hid (B0_25.out.keep G26)
                have B1_26 := Lib.hid (B1_25.out.keep G26)
                have B2_26 := Lib.hid (B2_25.out.keep G26)
                have B3_26 := Lib.hid (B3_25.out.keep G26)
                have B5_26 := Lib.hid (B5_25.out.keep G26)
                have B9_26 := Lib.hid (B9_25.out.keep G26)
                have B10_26 := Lib.hid (B10_25.out.keep G26)
                have B11_26 : Hid (Blk (w25.alloc (.cells #[.int .i64 un, .int .i64 ud] 23)) (w25.heap.size) (.int .i64 un) (.int .i64 ud)) := Lib.hid (Blk.at00 _ _ _ _)
                generalize hw26 : (w25.alloc (.cells #[.int .i64 un, .int .i64 ud] 23)) = w26 at *
                clear hw26 G26
                clear bs0 bx0 by0 bf0 be0 bs1 bx1 by1 bf1 be1 bs2 bx2 by2 bf2 be2 bs3 bx3 by3 bf3 be3 bs5 bx5 by5 bf5 be5 bs9 bx9 by9 bf9 be9 bs10 bx10 by10 bf10 be10
                obtain ⟨bs0, bx0, by0, bf0, be0⟩ := B0_26.out
                obtain ⟨bs1, bx1, by1, bf1, be1⟩ := B1_26.out
                obtain ⟨bs2, bx2, by2, bf2, be2⟩ := B2_26.out
                obtain ⟨bs3, bx3, by3, bf3, be3⟩ := B3_26.out
                obtain ⟨bs5, bx5, by5, bf5, be5⟩ := B5_26.out
                obtain ⟨bs9, bx9, by9, bf9, be9⟩ := B9_26.out
                obtain ⟨bs10, bx10, by10, bf10, be10⟩ := B10_26.out
                obtain ⟨bs11, bx11, by11, bf11, be11⟩ := B11_26.out
                clear M6
                by_cases z1 : se = 0
                · subst z1
                  by_cases z2 : ce = 0
                  · subst z2
                    by_cases z3 : ue = 0
                    · subst z3
                      have K1 := Lib.hid (M7.out rfl rfl rfl)
                      have K2 := Lib.hid (A6.out rfl rfl rfl)
                      clear M7 A6
                      go_wp2_with fail
                      refine (K1.out _).mono ?_
                      rintro e27 w27 ⟨rfl, hg⟩
                      have T27 := Lib.hid (T26.out.trans (hg.mono T26.out.size))
                      have B0_27 := Lib.hid (B0_26.out.below hg)
                      have B1_27 := Lib.hid (B1_26.out.below hg)
                      have B2_27 := Lib.hid (B2_26.out.below hg)
                      have B3_27 := Lib.hid (B3_26.out.below hg)
                      have B5_27 := Lib.hid (B5_26.out.below hg)
                      have B9_27 := Lib.hid (B9_26.out.below hg)
                      have B10_27 := Lib.hid (B10_26.out.below hg)
                      have B11_27 := Lib.hid (B11_26.out.below hg)
                      clear hg
                      clear bs0 bx0 by0 bf0 be0 bs1 bx1 by1 bf1 be1 bs2 bx2 by2 bf2 be2 bs3 bx3 by3 bf3 be3 bs5 bx5 by5 bf5 be5 bs9 bx9 by9 bf9 be9 bs10 bx10 by10 bf10 be10 bs11 bx11 by11 bf11 be11
                      obtain ⟨bs0, bx0, by0, bf0, be0⟩ := B0_27.out
                      obtain ⟨bs1, bx1, by1, bf1, be1⟩ := B1_27.out
                      obtain ⟨bs2, bx2, by2, bf2, be2⟩ := B2_27.out
                      obtain ⟨bs3, bx3, by3, bf3, be3⟩ := B3_27.out
                      obtain ⟨bs5, bx5, by5, bf5, be5⟩ := B5_27.out
                      obtain ⟨bs9, bx9, by9, bf9, be9⟩ := B9_27.out
                      obtain ⟨bs10, bx10, by10, bf10, be10⟩ := B10_27.out
                      obtain ⟨bs11, bx11, by11, bf11, be11⟩ := B11_27.out
                      go_wp2_with fail
                      have G28 : Gr w27 (w27.alloc (.cells #[.int .i64 zn, .int .i64 zd] 23)) := (Gr.one _ _)
                      have T28 := Lib.hid (T27.out.trans (G28.below.mono T27.out.size))
                      have B0_28 := Lib.hid (B0_27.out.keep G28)
                      have B1_28 := Lib.hid (B1_27.out.keep G28)
                      have B2_28 := Lib.hid (B2_27.out.keep G28)
                      have B3_28 := Lib.hid (B3_27.out.keep G28)
                      have B5_28 := Lib.hid (B5_27.out.keep G28)
                      have B9_28 := Lib.hid (B9_27.out.keep G28)
                      have B10_28 := Lib.hid (B10_27.out.keep G28)
                      have B11_28 := Lib.hid (B11_27.out.keep G28)
                      have B12_28 : Hid (Blk (w27.alloc (.cells #[.int .i64 zn, .int .i64 zd] 23)) (w27.heap.size) (.int .i64 zn) (.int .i64 zd)) := Lib.hid (Blk.at00 _ _ _ _)
                      generalize hw28 : (w27.alloc (.cells #[.int .i64 zn, .int .i64 zd] 23)) = w28 at *
                      clear hw28 G28
                      clear bs0 bx0 by0 bf0 be0 bs1 bx1 by1 bf1 be1 bs2 bx2 by2 bf2 be2 bs3 bx3 by3 bf3 be3 bs5 bx5 by5 bf5 be5 bs9 bx9 by9 bf9 be9 bs10 bx10 by10 bf10 be10 bs11 bx11 by11 bf11 be11
                      obtain ⟨bs0, bx0, by0, bf0, be0⟩ := B0_28.out
                      obtain ⟨bs1, bx1, by1, bf1, be1⟩ := B1_28.out
                      obtain ⟨bs2, bx2, by2, bf2, be2⟩ := B2_28.out
                      obtain ⟨bs3, bx3, by3, bf3, be3⟩ := B3_28.out
                      obtain ⟨bs5, bx5, by5, bf5, be5⟩ := B5_28.out
                      obtain ⟨bs9, bx9, by9, bf9, be9⟩ := B9_28.out
                      obtain ⟨bs10, bx10, by10, bf10, be10⟩ := B10_28.out
                      obtain ⟨bs11, bx11, by11, bf11, be11⟩ := B11_28.out
                      obtain ⟨bs12, bx12, by12, bf12, be12⟩ := B12_28.out
                      refine (K2.out _).mono ?_
                      rintro e29 w29 ⟨rfl, hg⟩
                      have T29 := Lib.hid (T28.out.trans (hg.mono T28.out.size))
                      have B0_29 := Lib.hid (B0_28.out.below hg)
                      have B1_29 := Lib.hid (B1_28.out.below hg)
                      have B2_29 := Lib.hid (B2_28.out.below hg)
                      have B3_29 := Lib.hid (B3_28.out.below hg)
                      have B5_29 := Lib.hid (B5_28.out.below hg)
                      have B9_29 := Lib.hid (B9_28.out.below hg)
                      have B10_29 := Lib.hid (B10_28.out.below hg)
                      have B11_29 := Lib.hid (B11_28.out.below hg)
                      have B12_29 := Lib.hid (B12_28.out.below hg)
                      clear hg
                      clear bs0 bx0 by0 bf0 be0 bs1 bx1 by1 bf1 be1 bs2 bx2 by2 bf2 be2 bs3 bx3 by3 bf3 be3 bs5 bx5 by5 bf5 be5 bs9 bx9 by9 bf9 be9 bs10 bx10 by10 bf10 be10 bs11 bx11 by11 bf11 be11 bs12 bx12 by12 bf12 be12
                      obtain ⟨bs0, bx0, by0, bf0, be0⟩ := B0_29.out
                      obtain ⟨bs1, bx1, by1, bf1, be1⟩ := B1_29.out
                      obtain ⟨bs2, bx2, by2, bf2, be2⟩ := B2_29.out
                      obtain ⟨bs3, bx3, by3, bf3, be3⟩ := B3_29.out
                      obtain ⟨bs5, bx5, by5, bf5, be5⟩ := B5_29.out
                      obtain ⟨bs9, bx9, by9, bf9, be9⟩ := B9_29.out
                      obtain ⟨bs10, bx10, by10, bf10, be10⟩ := B10_29.out
                      obtain ⟨bs11, bx11, by11, bf11, be11⟩ := B11_29.out
                      obtain ⟨bs12, bx12, by12, bf12, be12⟩ := B12_29.out
                      go_wp2_with fail
                      have G30 : Gr w29 (w29.alloc (.cells #[.int .i64 zn, .int .i64 zd] 23)) := (Gr.one _ _)
                      have T30 := Lib.hid (T29.out.trans (G30.below.mono T29.out.size))
                      have B0_30 := Lib.hid (B0_29.out.keep G30)
                      have B1_30 := Lib.hid (B1_29.out.keep G30)
                      have B2_30 := Lib.hid (B2_29.out.keep G30)
                      have B3_30 := Lib.hid (B3_29.out.keep G30)
                      have B5_30 := Lib.hid (B5_29.out.keep G30)
                      have B9_30 := Lib.hid (B9_29.out.keep G30)
                      have B10_30 := Lib.hid (B10_29.out.keep G30)
                      have B11_30 := Lib.hid (B11_29.out.keep G30)
                      have B12_30 := Lib.hid (B12_29.out.keep G30)
                      have B13_30 : Hid (Blk (w29.alloc (.cells #[.int .i64 zn, .int .i64 zd] 23)) (w29.heap.size) (.int .i64 zn) (.int .i64 zd)) := Lib.hid (Blk.at00 _ _ _ _)
                      generalize hw30 : (w29.alloc (.cells #[.int .i64 zn, .int .i64 zd] 23)) = w30 at *
                      clear hw30 G30
                      clear bs0 bx0 by0 bf0 be0 bs1 bx1 by1 bf1 be1 bs2 bx2 by2 bf2 be2 bs3 bx3 by3 bf3 be3 bs5 bx5 by5 bf5 be5 bs9 bx9 by9 bf9 be9 bs10 bx10 by10 bf10 be10 bs11 bx11 by11 bf11 be11 bs12 bx12 by12 bf12 be12
                      obtain ⟨bs0, bx0, by0, bf0, be0⟩ := B0_30.out
                      obtain ⟨bs1, bx1, by1, bf1, be1⟩ := B1_30.out
                      obtain ⟨bs2, bx2, by2, bf2, be2⟩ := B2_30.out
                      obtain ⟨bs3, bx3, by3, bf3, be3⟩ := B3_30.out
                      obtain ⟨bs5, bx5, by5, bf5, be5⟩ := B5_30.out
                      obtain ⟨bs9, bx9, by9, bf9, be9⟩ := B9_30.out
                      obtain ⟨bs10, bx10, by10, bf10, be10⟩ := B10_30.out
                      obtain ⟨bs11, bx11, by11, bf11, be11⟩ := B11_30.out
                      obtain ⟨bs12, bx12, by12, bf12, be12⟩ := B12_30.out
                      obtain ⟨bs13, bx13, by13, bf13, be13⟩ := B13_30.out
                      go_wp2_with fail
                      go_ret
                      exact ⟨rfl, T30.out⟩
                    · have z4 : (ue != 0) = true := by simp [z3]
                      clear M7 A6
                      go_wp2_with fail
                      go_ret
                      exact ⟨rfl, T26.out⟩
                  · have z4 : (ce != 0) = true := by simp [z2]
                    clear M7 A6
                    go_wp2_with fail
                    go_ret
                    exact ⟨rfl, T26.out⟩
                · have z4 : (se != 0) = true := by simp [z1]
                  clear M7 A6
                  go_wp2_with fail
                  go_ret
                  exact ⟨rfl, T26.out⟩
theorem field_walk (a b c d p q : Int) (w : World) (hL : Laid w) (h0 : -9223372036854775808 ≤ a) (h1 : a ≤ 9223372036854775807) (h2 : -9223372036854775808 ≤ b) (h3 : b ≤ 9223372036854775807) (h4 : -9223372036854775808 ≤ c) (h5 : c ≤ 9223372036854775807) (h6 : -9223372036854775808 ≤ d) (h7 : d ≤ 9223372036854775807) (h8 : -9223372036854775808 ≤ p) (h9 : p ≤ 9223372036854775807) (ha : -9223372036854775808 ≤ q) (hb : q ≤ 9223372036854775807) : Calls Tryd.prog 4 #[.agg #[.int .i64 a, .int .i64 b], .agg #[.int .i64 c, .int .i64 d], .agg #[.int .i64 p, .int .i64 q]] w (Yes w) := by
  cases hv : (vld a b && vld c d && vld p q)
  · exact field_no a b c d p q w hL h0 h1 h2 h3 h4 h5 h6 h7 h8 h9 ha hb hv
  · simp only [Bool.and_eq_true] at hv
    obtain ⟨⟨v1, v2⟩, v3⟩ := hv
    obtain ⟨_, _, b3, _⟩ := vld_iff.1 v1
    obtain ⟨o1, o2, o3⟩ := zero_res
    obtain ⟨i1, i2, i3⟩ := r_vld v1
    have hz : rat a b + rat (-a) b = 0 := by rw [rat_neg, Rat.add_neg_cancel]
    have ho : rat a b * rat 1 1 = rat a b := by rw [rat_one, Rat.mul_one]
    have e1 := Rat.add_comm (rat c d) (rat a b)
    have e2 := Rat.mul_comm (rat c d) (rat a b)
    refine field_way a b c d p q _ _ _ _ _ _ _ _ _ _ _ _ (rN (rat a b + rat c d + rat p q)) (rD (rat a b + rat c d + rat p q)) (rE (rat a b + rat c d + rat p q)) (rN (rat a b * rat c d * rat p q)) (rD (rat a b * rat c d * rat p q)) (rE (rat a b * rat c d * rat p q)) _ _ _ (rN (rat a b * (rat c d + rat p q))) (rD (rat a b * (rat c d + rat p q))) (rE (rat a b * (rat c d + rat p q))) (by omega) h1 w (Lib.hid hL)
      (Lib.hid (fun W => valid_at v1 W h0 h1 h2 h3)) (Lib.hid (fun W => valid_at v2 W h4 h5 h6 h7)) (Lib.hid (fun W => valid_at v3 W h8 h9 ha hb))
      (Lib.hid (fun W => add_at W v1 v2 rfl rfl rfl)) (Lib.hid (fun W => add_at W v2 v1 (by rw [e1]) (by rw [e1]) (by rw [e1]))) (Lib.hid (fun W => mul_at W v1 v2 rfl rfl rfl)) (Lib.hid (fun W => mul_at W v2 v1 (by rw [e2]) (by rw [e2]) (by rw [e2])))
      (Lib.hid (fun W => add_at W v1 (vld_neg v1) (by rw [hz]; exact o1) (by rw [hz]; exact o2) (by rw [hz]; exact o3))) (Lib.hid (fun W => mul_at W v1 (by decide +kernel) (by rw [ho]; exact i1) (by rw [ho]; exact i2) (by rw [ho]; exact i3)))
      (Lib.hid (fun W => add_at W v2 v3 rfl rfl rfl)) (Lib.hid (fun W => mul_at W v2 v3 rfl rfl rfl)) (Lib.hid (fun x y W => ?_)) (Lib.hid (fun x y W => ?_)) (Lib.hid (fun x y W => ?_)) (Lib.hid (fun x y W => ?_)) (Lib.hid (fun W => mul_at W v1 v3 rfl rfl rfl)) (Lib.hid (fun x y z W => ?_)) (Lib.hid (fun x y z W => ?_))
    · have e := res_rat _ x
      exact add_at W (res_vld _ x) v3 (by rw [e]) (by rw [e]) (by rw [e])
    · have e := res_rat _ y
      exact add_at W v1 (res_vld _ y) (by rw [e, Rat.add_assoc]) (by rw [e, Rat.add_assoc]) (by rw [e, Rat.add_assoc])
    · have e := res_rat _ x
      exact mul_at W (res_vld _ x) v3 (by rw [e]) (by rw [e]) (by rw [e])
    · have e := res_rat _ y
      exact mul_at W v1 (res_vld _ y) (by rw [e, Rat.mul_assoc]) (by rw [e, Rat.mul_assoc]) (by rw [e, Rat.mul_assoc])
    · have e := res_rat _ x
      exact mul_at W v1 (res_vld _ x) (by rw [e]) (by rw [e]) (by rw [e])
    · have e := res_rat _ y
      have e' := res_rat _ z
      exact add_at W (res_vld _ y) (res_vld _ z) (by rw [e, e', Rat.mul_add]) (by rw [e, e', Rat.mul_add]) (by rw [e, e', Rat.mul_add])
end Go.Proofs.YtdmddfhjfkdlnaaDoor
