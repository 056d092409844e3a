/- The walk of the law FractionMatchesReference. Under the condition that the tables and the library's variables lie in memory as the program lays them. -/
import Derived.Test.YtdmddfhjfkdlnaaDoorHd
import Derived.Test.YtdmddfhjfkdlnaaDoorRk
import Derived.Test.YtdmddfhjfkdlnaaDoorRl
import Derived.Test.YtdmddfhjfkdlnaaDoorRo
namespace Go.Proofs.YtdmddfhjfkdlnaaDoor
open Go.RowKit

set_option maxRecDepth 100000 in
set_option maxHeartbeats 20000000 in
theorem match_core (a b c d u v o1 o2 o3 p1 p2 p3 m1 m2 m3 c1 c2 f1 f2 te q1 q2 q3 : Int) (vv : Bool) (tt s : ByteArray) (w : World) (hs : s.size ≤ 100) (HL : Hid (Laid w)) (HO1 : Hid (∀ W, Calls Tryd.prog 10 #[.int .i64 u, .int .i64 v] W fun e w' => e = .returned (.tuple #[.agg #[.int .i64 o1, .int .i64 o2], .int .i64 o3]) ∧ Below W.heap.size W w')) (HO2 : Hid (∀ W, Calls Tryd.prog 11 #[.int .i64 u, .int .i64 v] W fun e w' => e = .returned (.tuple #[.agg #[.int .i64 o1, .int .i64 o2], .int .i64 o3]) ∧ Below W.heap.size W w')) (HA1 : Hid (∀ W, Calls Tryd.prog 12 #[.agg #[.int .i64 a, .int .i64 b], .agg #[.int .i64 c, .int .i64 d]] W fun e w' => e = .returned (.tuple #[.agg #[.int .i64 p1, .int .i64 p2], .int .i64 p3]) ∧ Below W.heap.size W w')) (HA2 : Hid (∀ W, Calls Tryd.prog 13 #[.agg #[.int .i64 a, .int .i64 b], .agg #[.int .i64 c, .int .i64 d]] W fun e w' => e = .returned (.tuple #[.agg #[.int .i64 p1, .int .i64 p2], .int .i64 p3]) ∧ Below W.heap.size W w')) (HM1 : Hid (∀ W, Calls Tryd.prog 14 #[.agg #[.int .i64 a, .int .i64 b], .agg #[.int .i64 c, .int .i64 d]] W fun e w' => e = .returned (.tuple #[.agg #[.int .i64 m1, .int .i64 m2], .int .i64 m3]) ∧ Below W.heap.size W w')) (HM2 : Hid (∀ W, Calls Tryd.prog 15 #[.agg #[.int .i64 a, .int .i64 b], .agg #[.int .i64 c, .int .i64 d]] W fun e w' => e = .returned (.tuple #[.agg #[.int .i64 m1, .int .i64 m2], .int .i64 m3]) ∧ Below W.heap.size W w')) (HV1 : Hid (∀ W, Calls Tryd.prog 16 #[.agg #[.int .i64 a, .int .i64 b]] W fun e w' => e = .returned (.bool vv) ∧ Below W.heap.size W w')) (HV2 : Hid (∀ W, Calls Tryd.prog 17 #[.agg #[.int .i64 a, .int .i64 b]] W fun e w' => e = .returned (.bool vv) ∧ Below W.heap.size W w')) (HC1 : Hid (∀ W, Calls Tryd.prog 18 #[.agg #[.int .i64 a, .int .i64 b], .agg #[.int .i64 c, .int .i64 d]] W fun e w' => e = .returned (.tuple #[.int .i64 c1, .int .i64 c2]) ∧ Below W.heap.size W w')) (HC2 : Hid (∀ W, Calls Tryd.prog 19 #[.agg #[.int .i64 a, .int .i64 b], .agg #[.int .i64 c, .int .i64 d]] W fun e w' => e = .returned (.tuple #[.int .i64 c1, .int .i64 c2]) ∧ Below W.heap.size W w')) (HF1 : Hid (∀ W, Calls Tryd.prog 20 #[.agg #[.int .i64 a, .int .i64 b]] W fun e w' => e = .returned (.tuple #[.int .i64 f1, .int .i64 f2]) ∧ Below W.heap.size W w')) (HF2 : Hid (∀ W, Calls Tryd.prog 21 #[.agg #[.int .i64 a, .int .i64 b]] W fun e w' => e = .returned (.tuple #[.int .i64 f1, .int .i64 f2]) ∧ Below W.heap.size W w')) (HT1 : Hid (∀ W, Laid W → Calls Tryd.prog 22 #[.agg #[.int .i64 a, .int .i64 b]] W fun e w' => e = .returned (.tuple #[.string tt, .int .i64 te]) ∧ Below W.heap.size W w')) (HT2 : Hid (∀ W, Calls Tryd.prog 23 #[.agg #[.int .i64 a, .int .i64 b]] W fun e w' => e = .returned (.tuple #[.string tt, .int .i64 te]) ∧ Below W.heap.size W w')) (HP1 : Hid (∀ W, Laid W → Calls Tryd.prog 24 #[.string s] W fun e w' => e = .returned (.tuple #[.agg #[.int .i64 q1, .int .i64 q2], .int .i64 q3]) ∧ Below W.heap.size W w')) (HP2 : Hid (∀ W, Calls Tryd.prog 25 #[.string s] W fun e w' => e = .returned (.tuple #[.agg #[.int .i64 q1, .int .i64 q2], .int .i64 q3]) ∧ Below W.heap.size W w')) : Calls Tryd.prog 3 #[.agg #[.int .i64 a, .int .i64 b], .agg #[.int .i64 c, .int .i64 d], .int .i64 u, .int .i64 v, .string s] w (Yes w) := by
  go_enter Tryd.func3, Tryd.ntmps3
  go_wp2_with fail
  have T0 := Lib.hid (Below.refl w.heap.size w)
  have G1 : Gr w ((w.alloc (.cells #[.int .i64 a, .int .i64 b] 23)).alloc (.cells #[.int .i64 c, .int .i64 d] 23)) := ((Gr.one _ _).alloc _)
  have T1 := Lib.hid (T0.out.trans (G1.below.mono T0.out.size))
  have B0_1 : Hid (Blk ((w.alloc (.cells #[.int .i64 a, .int .i64 b] 23)).alloc (.cells #[.int .i64 c, .int .i64 d] 23)) (w.heap.size) (.int .i64 a) (.int .i64 b)) := Lib.hid (Blk.at01 _ _ _ _ _)
  have B1_1 : Hid (Blk ((w.alloc (.cells #[.int .i64 a, .int .i64 b] 23)).alloc (.cells #[.int .i64 c, .int .i64 d] 23)) (w.heap.size + 1) (.int .i64 c) (.int .i64 d)) := Lib.hid (Blk.at10 _ _ _ _ _)
  generalize hw1 : ((w.alloc (.cells #[.int .i64 a, .int .i64 b] 23)).alloc (.cells #[.int .i64 c, .int .i64 d] 23)) = w1 at *
  clear hw1 G1
  obtain ⟨bs0, bx0, by0, bf0, be0⟩ := B0_1.out
  obtain ⟨bs1, bx1, by1, bf1, be1⟩ := B1_1.out
  refine (head_any _ (HL.out.keep T1.out)).mono ?_
  rintro e2 w2 ⟨rfl, hg⟩
  have T2 := Lib.hid (T1.out.trans (hg.mono T1.out.size))
  have B0_2 := Lib.hid (B0_1.out.below hg)
  have B1_2 := Lib.hid (B1_1.out.below hg)
  clear hg
  clear bs0 bx0 by0 bf0 be0 bs1 bx1 by1 bf1 be1
  obtain ⟨bs0, bx0, by0, bf0, be0⟩ := B0_2.out
  obtain ⟨bs1, bx1, by1, bf1, be1⟩ := B1_2.out
  go_wp2_with fail
  refine (HO1.out _).mono ?_
  rintro e3 w3 ⟨rfl, hg⟩
  have T3 := Lib.hid (T2.out.trans (hg.mono T2.out.size))
  have B0_3 := Lib.hid (B0_2.out.below hg)
  have B1_3 := Lib.hid (B1_2.out.below hg)
  clear hg
  clear bs0 bx0 by0 bf0 be0 bs1 bx1 by1 bf1 be1
  obtain ⟨bs0, bx0, by0, bf0, be0⟩ := B0_3.out
  obtain ⟨bs1, bx1, by1, bf1, be1⟩ := B1_3.out
  go_wp2_with fail
  have G4 : Gr w3 (w3.alloc (.cells #[.int .i64 o1, .int .i64 o2] 23)) := (Gr.one _ _)
  have T4 := Lib.hid (T3.out.trans (G4.below.mono T3.out.size))
  have B0_4 := Lib.hid (B0_3.out.keep G4)
  have B1_4 := Lib.hid (B1_3.out.keep G4)
  have B2_4 : Hid (Blk (w3.alloc (.cells #[.int .i64 o1, .int .i64 o2] 23)) (w3.heap.size) (.int .i64 o1) (.int .i64 o2)) := Lib.hid (Blk.at00 _ _ _ _)
  generalize hw4 : (w3.alloc (.cells #[.int .i64 o1, .int .i64 o2] 23)) = w4 at *
  clear hw4 G4
  clear bs0 bx0 by0 bf0 be0 bs1 bx1 by1 bf1 be1
  obtain ⟨bs0, bx0, by0, bf0, be0⟩ := B0_4.out
  obtain ⟨bs1, bx1, by1, bf1, be1⟩ := B1_4.out
  obtain ⟨bs2, bx2, by2, bf2, be2⟩ := B2_4.out
  refine (HO2.out _).mono ?_
  rintro e5 w5 ⟨rfl, hg⟩
  have T5 := Lib.hid (T4.out.trans (hg.mono T4.out.size))
  have B0_5 := Lib.hid (B0_4.out.below hg)
  have B1_5 := Lib.hid (B1_4.out.below hg)
  have B2_5 := Lib.hid (B2_4.out.below hg)
  clear hg
  clear bs0 bx0 by0 bf0 be0 bs1 bx1 by1 bf1 be1 bs2 bx2 by2 bf2 be2
  obtain ⟨bs0, bx0, by0, bf0, be0⟩ := B0_5.out
  obtain ⟨bs1, bx1, by1, bf1, be1⟩ := B1_5.out
  obtain ⟨bs2, bx2, by2, bf2, be2⟩ := B2_5.out
  go_wp2_with fail
  have G6 : Gr w5 (w5.alloc (.cells #[.int .i64 o1, .int .i64 o2] 23)) := (Gr.one _ _)
  have T6 := Lib.hid (T5.out.trans (G6.below.mono T5.out.size))
  have B0_6 := Lib.hid (B0_5.out.keep G6)
  have B1_6 := Lib.hid (B1_5.out.keep G6)
  have B2_6 := Lib.hid (B2_5.out.keep G6)
  have B3_6 : Hid (Blk (w5.alloc (.cells #[.int .i64 o1, .int .i64 o2] 23)) (w5.heap.size) (.int .i64 o1) (.int .i64 o2)) := Lib.hid (Blk.at00 _ _ _ _)
  generalize hw6 : (w5.alloc (.cells #[.int .i64 o1, .int .i64 o2] 23)) = w6 at *
  clear hw6 G6
  clear bs0 bx0 by0 bf0 be0 bs1 bx1 by1 bf1 be1 bs2 bx2 by2 bf2 be2
  obtain ⟨bs0, bx0, by0, bf0, be0⟩ := B0_6.out
  obtain ⟨bs1, bx1, by1, bf1, be1⟩ := B1_6.out
  obtain ⟨bs2, bx2, by2, bf2, be2⟩ := B2_6.out
  obtain ⟨bs3, bx3, by3, bf3, be3⟩ := B3_6.out
  refine (HA1.out _).mono ?_
  rintro e7 w7 ⟨rfl, hg⟩
  have T7 := Lib.hid (T6.out.trans (hg.mono T6.out.size))
  have B0_7 := Lib.hid (B0_6.out.below hg)
  have B1_7 := Lib.hid (B1_6.out.below hg)
  have B2_7 := Lib.hid (B2_6.out.below hg)
  have B3_7 := Lib.hid (B3_6.out.below hg)
  clear hg
  clear bs0 bx0 by0 bf0 be0 bs1 bx1 by1 bf1 be1 bs2 bx2 by2 bf2 be2 bs3 bx3 by3 bf3 be3
  obtain ⟨bs0, bx0, by0, bf0, be0⟩ := B0_7.out
  obtain ⟨bs1, bx1, by1, bf1, be1⟩ := B1_7.out
  obtain ⟨bs2, bx2, by2, bf2, be2⟩ := B2_7.out
  obtain ⟨bs3, bx3, by3, bf3, be3⟩ := B3_7.out
  go_wp2_with fail
  have G8 : Gr w7 (w7.alloc (.cells #[.int .i64 p1, .int .i64 p2] 23)) := (Gr.one _ _)
  have T8 := Lib.hid (T7.out.trans (G8.below.mono T7.out.size))
  have B0_8 := Lib.hid (B0_7.out.keep G8)
  have B1_8 := Lib.hid (B1_7.out.keep G8)
  have B2_8 := Lib.hid (B2_7.out.keep G8)
  have B3_8 := Lib.hid (B3_7.out.keep G8)
  have B4_8 : Hid (Blk (w7.alloc (.cells #[.int .i64 p1, .int .i64 p2] 23)) (w7.heap.size) (.int .i64 p1) (.int .i64 p2)) := Lib.hid (Blk.at00 _ _ _ _)
  generalize hw8 : (w7.alloc (.cells #[.int .i64 p1, .int .i64 p2] 23)) = w8 at *
  clear hw8 G8
  clear bs0 bx0 by0 bf0 be0 bs1 bx1 by1 bf1 be1 bs2 bx2 by2 bf2 be2 bs3 bx3 by3 bf3 be3
  obtain ⟨bs0, bx0, by0, bf0, be0⟩ := B0_8.out
  obtain ⟨bs1, bx1, by1, bf1, be1⟩ := B1_8.out
  obtain ⟨bs2, bx2, by2, bf2, be2⟩ := B2_8.out
  obtain ⟨bs3, bx3, by3, bf3, be3⟩ := B3_8.out
  obtain ⟨bs4, bx4, by4, bf4, be4⟩ := B4_8.out
  refine (HA2.out _).mono ?_
  rintro e9 w9 ⟨rfl, hg⟩
  have T9 := Lib.hid (T8.out.trans (hg.mono T8.out.size))
  have B0_9 := Lib.hid (B0_8.out.below hg)
  have B1_9 := Lib.hid (B1_8.out.below hg)
  have B2_9 := Lib.hid (B2_8.out.below hg)
  have B3_9 := Lib.hid (B3_8.out.below hg)
  have B4_9 := Lib.hid (B4_8.out.below hg)
  clear hg
  clear bs0 bx0 by0 bf0 be0 bs1 bx1 by1 bf1 be1 bs2 bx2 by2 bf2 be2 bs3 bx3 by3 bf3 be3 bs4 bx4 by4 bf4 be4
  obtain ⟨bs0, bx0, by0, bf0, be0⟩ := B0_9.out
  obtain ⟨bs1, bx1, by1, bf1, be1⟩ := B1_9.out
  obtain ⟨bs2, bx2, by2, bf2, be2⟩ := B2_9.out
  obtain ⟨bs3, bx3, by3, bf3, be3⟩ := B3_9.out
  obtain ⟨bs4, bx4, by4, bf4, be4⟩ := B4_9.out
  go_wp2_with fail
  have G10 : Gr w9 (w9.alloc (.cells #[.int .i64 p1, .int .i64 p2] 23)) := (Gr.one _ _)
  have T10 := Lib.hid (T9.out.trans (G10.below.mono T9.out.size))
  have B0_10 := Lib.hid (B0_9.out.keep G10)
  have B1_10 := Lib.hid (B1_9.out.keep G10)
  have B2_10 := Lib.hid (B2_9.out.keep G10)
  have B3_10 := Lib.hid (B3_9.out.keep G10)
  have B4_10 := Lib.hid (B4_9.out.keep G10)
  have B5_10 : Hid (Blk (w9.alloc (.cells #[.int .i64 p1, .int .i64 p2] 23)) (w9.heap.size) (.int .i64 p1) (.int .i64 p2)) := Lib.hid (Blk.at00 _ _ _ _)
  generalize hw10 : (w9.alloc (.cells #[.int .i64 p1, .int .i64 p2] 23)) = w10 at *
  clear hw10 G10
  clear bs0 bx0 by0 bf0 be0 bs1 bx1 by1 bf1 be1 bs2 bx2 by2 bf2 be2 bs3 bx3 by3 bf3 be3 bs4 bx4 by4 bf4 be4
  obtain ⟨bs0, bx0, by0, bf0, be0⟩ := B0_10.out
  obtain ⟨bs1, bx1, by1, bf1, be1⟩ := B1_10.out
  obtain ⟨bs2, bx2, by2, bf2, be2⟩ := B2_10.out
  obtain ⟨bs3, bx3, by3, bf3, be3⟩ := B3_10.out
  obtain ⟨bs4, bx4, by4, bf4, be4⟩ := B4_10.out
  obtain ⟨bs5, bx5, by5, bf5, be5⟩ := B5_10.out
  refine (HM1.out _).mono ?_
  rintro e11 w11 ⟨rfl, hg⟩
  have T11 := Lib.hid (T10.out.trans (hg.mono T10.out.size))
  have B0_11 := Lib.hid (B0_10.out.below hg)
  have B1_11 := Lib.hid (B1_10.out.below hg)
  have B2_11 := Lib.hid (B2_10.out.below hg)
  have B3_11 := Lib.hid (B3_10.out.below hg)
  have B4_11 := Lib.hid (B4_10.out.below hg)
  have B5_11 := Lib.hid (B5_10.out.below hg)
  clear hg
  clear bs0 bx0 by0 bf0 be0 bs1 bx1 by1 bf1 be1 bs2 bx2 by2 bf2 be2 bs3 bx3 by3 bf3 be3 bs4 bx4 by4 bf4 be4 bs5 bx5 by5 bf5 be5
  obtain ⟨bs0, bx0, by0, bf0, be0⟩ := B0_11.out
  obtain ⟨bs1, bx1, by1, bf1, be1⟩ := B1_11.out
  obtain ⟨bs2, bx2, by2, bf2, be2⟩ := B2_11.out
  obtain ⟨bs3, bx3, by3, bf3, be3⟩ := B3_11.out
  obtain ⟨bs4, bx4, by4, bf4, be4⟩ := B4_11.out
  obtain ⟨bs5, bx5, by5, bf5, be5⟩ := B5_11.out
  go_wp2_with fail
  have G12 : Gr w11 (w11.alloc (.cells #[.int .i64 m1, .int .i64 m2] 23)) := (Gr.one _ _)
  have T12 := Lib.hid (T11.out.trans (G12.below.mono T11.out.size))
  have B0_12 := Lib.hid (B0_11.out.keep G12)
  have B1_12 := Lib.hid (B1_11.out.keep G12)
  have B2_12 := Lib.hid (B2_11.out.keep G12)
  have B3_12 := Lib.hid (B3_11.out.keep G12)
  have B4_12 := Lib.hid (B4_11.out.keep G12)
  have B5_12 := Lib.hid (B5_11.out.keep G12)
  have B6_12 : Hid (Blk (w11.alloc (.cells #[.int .i64 m1, .int .i64 m2] 23)) (w11.heap.size) (.int .i64 m1) (.int .i64 m2)) := Lib.hid (Blk.at00 _ _ _ _)
  generalize hw12 : (w11.alloc (.cells #[.int .i64 m1, .int .i64 m2] 23)) = w12 at *
  clear hw12 G12
  clear bs0 bx0 by0 bf0 be0 bs1 bx1 by1 bf1 be1 bs2 bx2 by2 bf2 be2 bs3 bx3 by3 bf3 be3 bs4 bx4 by4 bf4 be4 bs5 bx5 by5 bf5 be5
  obtain ⟨bs0, bx0, by0, bf0, be0⟩ := B0_12.out
  obtain ⟨bs1, bx1, by1, bf1, be1⟩ := B1_12.out
  obtain ⟨bs2, bx2, by2, bf2, be2⟩ := B2_12.out
  obtain ⟨bs3, bx3, by3, bf3, be3⟩ := B3_12.out
  obtain ⟨bs4, bx4, by4, bf4, be4⟩ := B4_12.out
  obtain ⟨bs5, bx5, by5, bf5, be5⟩ := B5_12.out
  obtain ⟨bs6, bx6, by6, bf6, be6⟩ := B6_12.out
  refine (HM2.out _).mono ?_
  rintro e13 w13 ⟨rfl, hg⟩
  have T13 := Lib.hid (T12.out.trans (hg.mono T12.out.size))
  have B0_13 := Lib.hid (B0_12.out.below hg)
  have B1_13 := Lib.hid (B1_12.out.below hg)
  have B2_13 := Lib.hid (B2_12.out.below hg)
  have B3_13 := Lib.hid (B3_12.out.below hg)
  have B4_13 := Lib.hid (B4_12.out.below hg)
  have B5_13 := Lib.hid (B5_12.out.below hg)
  have B6_13 := Lib.hid (B6_12.out.below hg)
  clear hg
  clear bs0 bx0 by0 bf0 be0 bs1 bx1 by1 bf1 be1 bs2 bx2 by2 bf2 be2 bs3 bx3 by3 bf3 be3 bs4 bx4 by4 bf4 be4 bs5 bx5 by5 bf5 be5 bs6 bx6 by6 bf6 be6
  obtain ⟨bs0, bx0, by0, bf0, be0⟩ := B0_13.out
  obtain ⟨bs1, bx1, by1, bf1, be1⟩ := B1_13.out
  obtain ⟨bs2, bx2, by2, bf2, be2⟩ := B2_13.out
  obtain ⟨bs3, bx3, by3, bf3, be3⟩ := B3_13.out
  obtain ⟨bs4, bx4, by4, bf4, be4⟩ := B4_13.out
  obtain ⟨bs5, bx5, by5, bf5, be5⟩ := B5_13.out
  obtain ⟨bs6, bx6, by6, bf6, be6⟩ := B6_13.out
  go_wp2_with fail
  have G14 : Gr w13 (w13.alloc (.cells #[.int .i64 m1, .int .i64 m2] 23)) := (Gr.one _ _)
  have T14 := Lib.hid (T13.out.trans (G14.below.mono T13.out.size))
  have B0_14 := Lib.hid (B0_13.out.keep G14)
  have B1_14 := Lib.hid (B1_13.out.keep G14)
  have B2_14 := Lib.hid (B2_13.out.keep G14)
  have B3_14 := Lib.hid (B3_13.out.keep G14)
  have B4_14 := Lib.hid (B4_13.out.keep G14)
  have B5_14 := Lib.hid (B5_13.out.keep G14)
  have B6_14 := Lib.hid (B6_13.out.keep G14)
  have B7_14 : Hid (Blk (w13.alloc (.cells #[.int .i64 m1, .int .i64 m2] 23)) (w13.heap.size) (.int .i64 m1) (.int .i64 m2)) := Lib.hid (Blk.at00 _ _ _ _)
  generalize hw14 : (w13.alloc (.cells #[.int .i64 m1, .int .i64 m2] 23)) = w14 at *
  clear hw14 G14
  clear bs0 bx0 by0 bf0 be0 bs1 bx1 by1 bf1 be1 bs2 bx2 by2 bf2 be2 bs3 bx3 by3 bf3 be3 bs4 bx4 by4 bf4 be4 bs5 bx5 by5 bf5 be5 bs6 bx6 by6 bf6 be6
  obtain ⟨bs0, bx0, by0, bf0, be0⟩ := B0_14.out
  obtain ⟨bs1, bx1, by1, bf1, be1⟩ := B1_14.out
  obtain ⟨bs2, bx2, by2, bf2, be2⟩ := B2_14.out
  obtain ⟨bs3, bx3, by3, bf3, be3⟩ := B3_14.out
  obtain ⟨bs4, bx4, by4, bf4, be4⟩ := B4_14.out
  obtain ⟨bs5, bx5, by5, bf5, be5⟩ := B5_14.out
  obtain ⟨bs6, bx6, by6, bf6, be6⟩ := B6_14.out
  obtain ⟨bs7, bx7, by7, bf7, be7⟩ := B7_14.out
  go_region_held3 (fun w' => w'.cell? ⟨w.heap.size, 0, none⟩ = some (.int .i64 a) ∧ w'.cell? ⟨w.heap.size, 1, none⟩ = some (.int .i64 b) ∧ w'.cell? ⟨w3.heap.size, 0, none⟩ = some (.int .i64 o1) ∧ w'.cell? ⟨w3.heap.size, 1, none⟩ = some (.int .i64 o2) ∧ w'.cell? ⟨w5.heap.size, 0, none⟩ = some (.int .i64 o1) ∧ w'.cell? ⟨w5.heap.size, 1, none⟩ = some (.int .i64 o2) ∧ w'.cell? ⟨w7.heap.size, 0, none⟩ = some (.int .i64 p1) ∧ w'.cell? ⟨w7.heap.size, 1, none⟩ = some (.int .i64 p2) ∧ w'.cell? ⟨w9.heap.size, 0, none⟩ = some (.int .i64 p1) ∧ w'.cell? ⟨w9.heap.size, 1, none⟩ = some (.int .i64 p2) ∧ w'.cell? ⟨w11.heap.size, 0, none⟩ = some (.int .i64 m1) ∧ w'.cell? ⟨w11.heap.size, 1, none⟩ = some (.int .i64 m2) ∧ w'.cell? ⟨w13.heap.size, 0, none⟩ = some (.int .i64 m1) ∧ w'.cell? ⟨w13.heap.size, 1, none⟩ = some (.int .i64 m2)) (first | (go_keep; done) | ((try dsimp only); refine ⟨?_, ?_, ?_, ?_, ?_, ?_, ?_, ?_, ?_, ?_, ?_, ?_, ?_, ?_⟩ <;> (simp [*]; done)))
    (first | (go_at_call 16; refine (HV1.out _).mono ?_; rintro e wqa ⟨rfl, hg⟩; (have Ga := Lib.hid ((Gr.drewn w14).below.trans (hg.mono (Gr.drewn w14).below.size))); (obtain ⟨_, Gax0, Gay0, _⟩ := B0_14.out.below Ga.out); (obtain ⟨_, Gax2, Gay2, _⟩ := B2_14.out.below Ga.out); (obtain ⟨_, Gax3, Gay3, _⟩ := B3_14.out.below Ga.out); (obtain ⟨_, Gax4, Gay4, _⟩ := B4_14.out.below Ga.out); (obtain ⟨_, Gax5, Gay5, _⟩ := B5_14.out.below Ga.out); (obtain ⟨_, Gax6, Gay6, _⟩ := B6_14.out.below Ga.out); (obtain ⟨_, Gax7, Gay7, _⟩ := B7_14.out.below Ga.out); clear hg) | (go_at_call 17; refine (HV2.out _).mono ?_; rintro e wqb ⟨rfl, hg⟩; (have Gb := Lib.hid (Ga.out.trans (hg.mono Ga.out.size))); (obtain ⟨_, Gbx0, Gby0, _⟩ := B0_14.out.below Gb.out); (obtain ⟨_, Gbx2, Gby2, _⟩ := B2_14.out.below Gb.out); (obtain ⟨_, Gbx3, Gby3, _⟩ := B3_14.out.below Gb.out); (obtain ⟨_, Gbx4, Gby4, _⟩ := B4_14.out.below Gb.out); (obtain ⟨_, Gbx5, Gby5, _⟩ := B5_14.out.below Gb.out); (obtain ⟨_, Gbx6, Gby6, _⟩ := B6_14.out.below Gb.out); (obtain ⟨_, Gbx7, Gby7, _⟩ := B7_14.out.below Gb.out); clear hg))
  clear bs0 bx0 by0 bf0 be0 bs1 bx1 by1 bf1 be1 bs2 bx2 by2 bf2 be2 bs3 bx3 by3 bf3 be3 bs4 bx4 by4 bf4 be4 bs5 bx5 by5 bf5 be5 bs6 bx6 by6 bf6 be6 bs7 bx7 by7 bf7 be7
  have T15 := Lib.hid (T14.out.trans (Gb.out.mono T14.out.size))
  have B0_15 := Lib.hid (B0_14.out.below Gb.out)
  have B1_15 := Lib.hid (B1_14.out.below Gb.out)
  have B2_15 := Lib.hid (B2_14.out.below Gb.out)
  have B3_15 := Lib.hid (B3_14.out.below Gb.out)
  have B4_15 := Lib.hid (B4_14.out.below Gb.out)
  have B5_15 := Lib.hid (B5_14.out.below Gb.out)
  have B6_15 := Lib.hid (B6_14.out.below Gb.out)
  have B7_15 := Lib.hid (B7_14.out.below Gb.out)
  clear Gax0 Gay0 Gax2 Gay2 Gax3 Gay3 Gax4 Gay4 Gax5 Gay5 Gax6 Gay6 Gax7 Gay7 Gbx0 Gby0 Gbx2 Gby2 Gbx3 Gby3 Gbx4 Gby4 Gbx5 Gby5 Gbx6 Gby6 Gbx7 Gby7
  obtain ⟨bs0, bx0, by0, bf0, be0⟩ := B0_15.out
  obtain ⟨bs1, bx1, by1, bf1, be1⟩ := B1_15.out
  obtain ⟨bs2, bx2, by2, bf2, be2⟩ := B2_15.out
  obtain ⟨bs3, bx3, by3, bf3, be3⟩ := B3_15.out
  obtain ⟨bs4, bx4, by4, bf4, be4⟩ := B4_15.out
  obtain ⟨bs5, bx5, by5, bf5, be5⟩ := B5_15.out
  obtain ⟨bs6, bx6, by6, bf6, be6⟩ := B6_15.out
  obtain ⟨bs7, bx7, by7, bf7, be7⟩ := B7_15.out
  go_wp2_with fail
  refine (HC1.out _).mono ?_
  rintro e16 w16 ⟨rfl, hg⟩
  have T16 := Lib.hid (T15.out.trans (hg.mono T15.out.size))
  have B0_16 := Lib.hid (B0_15.out.below hg)
  have B1_16 := Lib.hid (B1_15.out.below hg)
  have B2_16 := Lib.hid (B2_15.out.below hg)
  have B3_16 := Lib.hid (B3_15.out.below hg)
  have B4_16 := Lib.hid (B4_15.out.below hg)
  have B5_16 := Lib.hid (B5_15.out.below hg)
  have B6_16 := Lib.hid (B6_15.out.below hg)
  have B7_16 := Lib.hid (B7_15.out.below hg)
  clear hg
  clear bs0 bx0 by0 bf0 be0 bs1 bx1 by1 bf1 be1 bs2 bx2 by2 bf2 be2 bs3 bx3 by3 bf3 be3 bs4 bx4 by4 bf4 be4 bs5 bx5 by5 bf5 be5 bs6 bx6 by6 bf6 be6 bs7 bx7 by7 bf7 be7
  obtain ⟨bs0, bx0, by0, bf0, be0⟩ := B0_16.out
  obtain ⟨bs1, bx1, by1, bf1, be1⟩ := B1_16.out
  obtain ⟨bs2, bx2, by2, bf2, be2⟩ := B2_16.out
  obtain ⟨bs3, bx3, by3, bf3, be3⟩ := B3_16.out
  obtain ⟨bs4, bx4, by4, bf4, be4⟩ := B4_16.out
  obtain ⟨bs5, bx5, by5, bf5, be5⟩ := B5_16.out
  obtain ⟨bs6, bx6, by6, bf6, be6⟩ := B6_16.out
  obtain ⟨bs7, bx7, by7, bf7, be7⟩ := B7_16.out
  go_wp2_with fail
  refine (HC2.out _).mono ?_
  rintro e17 w17 ⟨rfl, hg⟩
  have T17 := Lib.hid (T16.out.trans (hg.mono T16.out.size))
  have B0_17 := Lib.hid (B0_16.out.below hg)
  have B1_17 := Lib.hid (B1_16.out.below hg)
  have B2_17 := Lib.hid (B2_16.out.below hg)
  have B3_17 := Lib.hid (B3_16.out.below hg)
  have B4_17 := Lib.hid (B4_16.out.below hg)
  have B5_17 := Lib.hid (B5_16.out.below hg)
  have B6_17 := Lib.hid (B6_16.out.below hg)
  have B7_17 := Lib.hid (B7_16.out.below hg)
  clear hg
  clear bs0 bx0 by0 bf0 be0 bs1 bx1 by1 bf1 be1 bs2 bx2 by2 bf2 be2 bs3 bx3 by3 bf3 be3 bs4 bx4 by4 bf4 be4 bs5 bx5 by5 bf5 be5 bs6 bx6 by6 bf6 be6 bs7 bx7 by7 bf7 be7
  obtain ⟨bs0, bx0, by0, bf0, be0⟩ := B0_17.out
  obtain ⟨bs1, bx1, by1, bf1, be1⟩ := B1_17.out
  obtain ⟨bs2, bx2, by2, bf2, be2⟩ := B2_17.out
  obtain ⟨bs3, bx3, by3, bf3, be3⟩ := B3_17.out
  obtain ⟨bs4, bx4, by4, bf4, be4⟩ := B4_17.out
  obtain ⟨bs5, bx5, by5, bf5, be5⟩ := B5_17.out
  obtain ⟨bs6, bx6, by6, bf6, be6⟩ := B6_17.out
  obtain ⟨bs7, bx7, by7, bf7, be7⟩ := B7_17.out
  go_wp2_with fail
  refine (HF1.out _).mono ?_
  rintro e18 w18 ⟨rfl, hg⟩
  have T18 := Lib.hid (T17.out.trans (hg.mono T17.out.size))
  have B0_18 := Lib.hid (B0_17.out.below hg)
  have B1_18 := Lib.hid (B1_17.out.below hg)
  have B2_18 := Lib.hid (B2_17.out.below hg)
  have B3_18 := Lib.hid (B3_17.out.below hg)
  have B4_18 := Lib.hid (B4_17.out.below hg)
  have B5_18 := Lib.hid (B5_17.out.below hg)
  have B6_18 := Lib.hid (B6_17.out.below hg)
  have B7_18 := Lib.hid (B7_17.out.below hg)
  clear hg
  clear bs0 bx0 by0 bf0 be0 bs1 bx1 by1 bf1 be1 bs2 bx2 by2 bf2 be2 bs3 bx3 by3 bf3 be3 bs4 bx4 by4 bf4 be4 bs5 bx5 by5 bf5 be5 bs6 bx6 by6 bf6 be6 bs7 bx7 by7 bf7 be7
  obtain ⟨bs0, bx0, by0, bf0, be0⟩ := B0_18.out
  obtain ⟨bs1, bx1, by1, bf1, be1⟩ := B1_18.out
  obtain ⟨bs2, bx2, by2, bf2, be2⟩ := B2_18.out
  obtain ⟨bs3, bx3, by3, bf3, be3⟩ := B3_18.out
  obtain ⟨bs4, bx4, by4, bf4, be4⟩ := B4_18.out
  obtain ⟨bs5, bx5, by5, bf5, be5⟩ := B5_18.out
  obtain ⟨bs6, bx6, by6, bf6, be6⟩ := B6_18.out
  obtain ⟨bs7, bx7, by7, bf7, be7⟩ := B7_18.out
  go_wp2_with fail
  refine (HF2.out _).mono ?_
  rintro e19 w19 ⟨rfl, hg⟩
  have T19 := Lib.hid (T18.out.trans (hg.mono T18.out.size))
  have B0_19 := Lib.hid (B0_18.out.below hg)
  have B1_19 := Lib.hid (B1_18.out.below hg)
  have B2_19 := Lib.hid (B2_18.out.below hg)
  have B3_19 := Lib.hid (B3_18.out.below hg)
  have B4_19 := Lib.hid (B4_18.out.below hg)
  have B5_19 := Lib.hid (B5_18.out.below hg)
  have B6_19 := Lib.hid (B6_18.out.below hg)
  have B7_19 := Lib.hid (B7_18.out.below hg)
  clear hg
  clear bs0 bx0 by0 bf0 be0 bs1 bx1 by1 bf1 be1 bs2 bx2 by2 bf2 be2 bs3 bx3 by3 bf3 be3 bs4 bx4 by4 bf4 be4 bs5 bx5 by5 bf5 be5 bs6 bx6 by6 bf6 be6 bs7 bx7 by7 bf7 be7
  obtain ⟨bs0, bx0, by0, bf0, be0⟩ := B0_19.out
  obtain ⟨bs1, bx1, by1, bf1, be1⟩ := B1_19.out
  obtain ⟨bs2, bx2, by2, bf2, be2⟩ := B2_19.out
  obtain ⟨bs3, bx3, by3, bf3, be3⟩ := B3_19.out
  obtain ⟨bs4, bx4, by4, bf4, be4⟩ := B4_19.out
  obtain ⟨bs5, bx5, by5, bf5, be5⟩ := B5_19.out
  obtain ⟨bs6, bx6, by6, bf6, be6⟩ := B6_19.out
  obtain ⟨bs7, bx7, by7, bf7, be7⟩ := B7_19.out
  go_wp2_with fail
  refine (HT1.out _ (HL.out.keep T19.out)).mono ?_
  rintro e20 w20 ⟨rfl, hg⟩
  have T20 := Lib.hid (T19.out.trans (hg.mono T19.out.size))
  have B0_20 := Lib.hid (B0_19.out.below hg)
  have B1_20 := Lib.hid (B1_19.out.below hg)
  have B2_20 := Lib.hid (B2_19.out.below hg)
  have B3_20 := Lib.hid (B3_19.out.below hg)
  have B4_20 := Lib.hid (B4_19.out.below hg)
  have B5_20 := Lib.hid (B5_19.out.below hg)
  have B6_20 := Lib.hid (B6_19.out.below hg)
  have B7_20 := Lib.hid (B7_19.out.below hg)
  clear hg
  clear bs0 bx0 by0 bf0 be0 bs1 bx1 by1 bf1 be1 bs2 bx2 by2 bf2 be2 bs3 bx3 by3 bf3 be3 bs4 bx4 by4 bf4 be4 bs5 bx5 by5 bf5 be5 bs6 bx6 by6 bf6 be6 bs7 bx7 by7 bf7 be7
  obtain ⟨bs0, bx0, by0, bf0, be0⟩ := B0_20.out
  obtain ⟨bs1, bx1, by1, bf1, be1⟩ := B1_20.out
  obtain ⟨bs2, bx2, by2, bf2, be2⟩ := B2_20.out
  obtain ⟨bs3, bx3, by3, bf3, be3⟩ := B3_20.out
  obtain ⟨bs4, bx4, by4, bf4, be4⟩ := B4_20.out
  obtain ⟨bs5, bx5, by5, bf5, be5⟩ := B5_20.out
  obtain ⟨bs6, bx6, by6, bf6, be6⟩ := B6_20.out
  obtain ⟨bs7, bx7, by7, bf7, be7⟩ := B7_20.out
  go_wp2_with fail
  refine (HT2.out _).mono ?_
  rintro e21 w21 ⟨rfl, hg⟩
  have T21 := Lib.hid (T20.out.trans (hg.mono T20.out.size))
  have B0_21 := Lib.hid (B0_20.out.below hg)
  have B1_21 := Lib.hid (B1_20.out.below hg)
  have B2_21 := Lib.hid (B2_20.out.below hg)
  have B3_21 := Lib.hid (B3_20.out.below hg)
  have B4_21 := Lib.hid (B4_20.out.below hg)
  have B5_21 := Lib.hid (B5_20.out.below hg)
  have B6_21 := Lib.hid (B6_20.out.below hg)
  have B7_21 := Lib.hid (B7_20.out.below hg)
  clear hg
  clear bs0 bx0 by0 bf0 be0 bs1 bx1 by1 bf1 be1 bs2 bx2 by2 bf2 be2 bs3 bx3 by3 bf3 be3 bs4 bx4 by4 bf4 be4 bs5 bx5 by5 bf5 be5 bs6 bx6 by6 bf6 be6 bs7 bx7 by7 bf7 be7
  obtain ⟨bs0, bx0, by0, bf0, be0⟩ := B0_21.out
  obtain ⟨bs1, bx1, by1, bf1, be1⟩ := B1_21.out
  obtain ⟨bs2, bx2, by2, bf2, be2⟩ := B2_21.out
  obtain ⟨bs3, bx3, by3, bf3, be3⟩ := B3_21.out
  obtain ⟨bs4, bx4, by4, bf4, be4⟩ := B4_21.out
  obtain ⟨bs5, bx5, by5, bf5, be5⟩ := B5_21.out
  obtain ⟨bs6, bx6, by6, bf6, be6⟩ := B6_21.out
  obtain ⟨bs7, bx7, by7, bf7, be7⟩ := B7_21.out
  go_wp2_with fail
  refine (HP1.out _ (HL.out.keep T21.out)).mono ?_
  rintro e22 w22 ⟨rfl, hg⟩
  have T22 := Lib.hid (T21.out.trans (hg.mono T21.out.size))
  have B0_22 := Lib.hid (B0_21.out.below hg)
  have B1_22 := Lib.hid (B1_21.out.below hg)
  have B2_22 := Lib.hid (B2_21.out.below hg)
  have B3_22 := Lib.hid (B3_21.out.below hg)
  have B4_22 := Lib.hid (B4_21.out.below hg)
  have B5_22 := Lib.hid (B5_21.out.below hg)
  have B6_22 := Lib.hid (B6_21.out.below hg)
  have B7_22 := Lib.hid (B7_21.out.below hg)
  clear hg
  clear bs0 bx0 by0 bf0 be0 bs1 bx1 by1 bf1 be1 bs2 bx2 by2 bf2 be2 bs3 bx3 by3 bf3 be3 bs4 bx4 by4 bf4 be4 bs5 bx5 by5 bf5 be5 bs6 bx6 by6 bf6 be6 bs7 bx7 by7 bf7 be7
  obtain ⟨bs0, bx0, by0, bf0, be0⟩ := B0_22.out
  obtain ⟨bs1, bx1, by1, bf1, be1⟩ := B1_22.out
  obtain ⟨bs2, bx2, by2, bf2, be2⟩ := B2_22.out
  obtain ⟨bs3, bx3, by3, bf3, be3⟩ := B3_22.out
  obtain ⟨bs4, bx4, by4, bf4, be4⟩ := B4_22.out
  obtain ⟨bs5, bx5, by5, bf5, be5⟩ := B5_22.out
  obtain ⟨bs6, bx6, by6, bf6, be6⟩ := B6_22.out
  obtain ⟨bs7, bx7, by7, bf7, be7⟩ := B7_22.out
  go_wp2_with fail
  have G23 : Gr w22 (w22.alloc (.cells #[.int .i64 q1, .int .i64 q2] 23)) := (Gr.one _ _)
  have T23 := Lib.hid (T22.out.trans (G23.below.mono T22.out.size))
  have B0_23 := Lib.hid (B0_22.out.keep G23)
  have B1_23 := Lib.hid (B1_22.out.keep G23)
  have B2_23 := Lib.hid (B2_22.out.keep G23)
  have B3_23 := Lib.hid (B3_22.out.keep G23)
  have B4_23 := Lib.hid (B4_22.out.keep G23)
  have B5_23 := Lib.hid (B5_22.out.keep G23)
  have B6_23 := Lib.hid (B6_22.out.keep G23)
  have B7_23 := Lib.hid (B7_22.out.keep G23)
  have B8_23 : Hid (Blk (w22.alloc (.cells #[.int .i64 q1, .int .i64 q2] 23)) (w22.heap.size) (.int .i64 q1) (.int .i64 q2)) := Lib.hid (Blk.at00 _ _ _ _)
  generalize hw23 : (w22.alloc (.cells #[.int .i64 q1, .int .i64 q2] 23)) = w23 at *
  clear hw23 G23
  clear bs0 bx0 by0 bf0 be0 bs1 bx1 by1 bf1 be1 bs2 bx2 by2 bf2 be2 bs3 bx3 by3 bf3 be3 bs4 bx4 by4 bf4 be4 bs5 bx5 by5 bf5 be5 bs6 bx6 by6 bf6 be6 bs7 bx7 by7 bf7 be7
  obtain ⟨bs0, bx0, by0, bf0, be0⟩ := B0_23.out
  obtain ⟨bs1, bx1, by1, bf1, be1⟩ := B1_23.out
  obtain ⟨bs2, bx2, by2, bf2, be2⟩ := B2_23.out
  obtain ⟨bs3, bx3, by3, bf3, be3⟩ := B3_23.out
  obtain ⟨bs4, bx4, by4, bf4, be4⟩ := B4_23.out
  obtain ⟨bs5, bx5, by5, bf5, be5⟩ := B5_23.out
  obtain ⟨bs6, bx6, by6, bf6, be6⟩ := B6_23.out
  obtain ⟨bs7, bx7, by7, bf7, be7⟩ := B7_23.out
  obtain ⟨bs8, bx8, by8, bf8, be8⟩ := B8_23.out
  refine (HP2.out _).mono ?_
  rintro e24 w24 ⟨rfl, hg⟩
  have T24 := Lib.hid (T23.out.trans (hg.mono T23.out.size))
  have B0_24 := Lib.hid (B0_23.out.below hg)
  have B1_24 := Lib.hid (B1_23.out.below hg)
  have B2_24 := Lib.hid (B2_23.out.below hg)
  have B3_24 := Lib.hid (B3_23.out.below hg)
  have B4_24 := Lib.hid (B4_23.out.below hg)
  have B5_24 := Lib.hid (B5_23.out.below hg)
  have B6_24 := Lib.hid (B6_23.out.below hg)
  have B7_24 := Lib.hid (B7_23.out.below hg)
  have B8_24 := Lib.hid (B8_23.out.below hg)
  clear hg
  clear bs0 bx0 by0 bf0 be0 bs1 bx1 by1 bf1 be1 bs2 bx2 by2 bf2 be2 bs3 bx3 by3 bf3 be3 bs4 bx4 by4 bf4 be4 bs5 bx5 by5 bf5 be5 bs6 bx6 by6 bf6 be6 bs7 bx7 by7 bf7 be7 bs8 bx8 by8 bf8 be8
  obtain ⟨bs0, bx0, by0, bf0, be0⟩ := B0_24.out
  obtain ⟨bs1, bx1, by1, bf1, be1⟩ := B1_24.out
  obtain ⟨bs2, bx2, by2, bf2, be2⟩ := B2_24.out
  obtain ⟨bs3, bx3, by3, bf3, be3⟩ := B3_24.out
  obtain ⟨bs4, bx4, by4, bf4, be4⟩ := B4_24.out
  obtain ⟨bs5, bx5, by5, bf5, be5⟩ := B5_24.out
  obtain ⟨bs6, bx6, by6, bf6, be6⟩ := B6_24.out
  obtain ⟨bs7, bx7, by7, bf7, be7⟩ := B7_24.out
  obtain ⟨bs8, bx8, by8, bf8, be8⟩ := B8_24.out
  go_wp2_with fail
  have G25 : Gr w24 (w24.alloc (.cells #[.int .i64 q1, .int .i64 q2] 23)) := (Gr.one _ _)
  have T25 := Lib.hid (T24.out.trans (G25.below.mono T24.out.size))
  have B0_25 := Lib.hid (B0_24.out.keep G25)
  have B1_25 := Lib.hid (B1_24.out.keep G25)
  have B2_25 := Lib.hid (B2_24.out.keep G25)
  have B3_25 := Lib.hid (B3_24.out.keep G25)
  have B4_25 := Lib.hid (B4_24.out.keep G25)
  have B5_25 := Lib.hid (B5_24.out.keep G25)
  have B6_25 := Lib.hid (B6_24.out.keep G25)
  have B7_25 := Lib.hid (B7_24.out.keep G25)
  have B8_25 := Lib.hid (B8_24.out.keep G25)
  have B9_25 : Hid (Blk (w24.alloc (.cells #[.int .i64 q1, .int .i64 q2] 23)) (w24.heap.size) (.int .i64 q1) (.int .i64 q2)) := Lib.hid (Blk.at00 _ _ _ _)
  generalize hw25 : (w24.alloc (.cells #[.int .i64 q1, .int .i64 q2] 23)) = w25 at *
  clear hw25 G25
  clear bs0 bx0 by0 bf0 be0 bs1 bx1 by1 bf1 be1 bs2 bx2 by2 bf2 be2 bs3 bx3 by3 bf3 be3 bs4 bx4 by4 bf4 be4 bs5 bx5 by5 bf5 be5 bs6 bx6 by6 bf6 be6 bs7 bx7 by7 bf7 be7 bs8 bx8 by8 bf8 be8
  obtain ⟨bs0, bx0, by0, bf0, be0⟩ := B0_25.out
  obtain ⟨bs1, bx1, by1, bf1, be1⟩ := B1_25.out
  obtain ⟨bs2, bx2, by2, bf2, be2⟩ := B2_25.out
  obtain ⟨bs3, bx3, by3, bf3, be3⟩ := B3_25.out
  obtain ⟨bs4, bx4, by4, bf4, be4⟩ := B4_25.out
  obtain ⟨bs5, bx5, by5, bf5, be5⟩ := B5_25.out
  obtain ⟨bs6, bx6, by6, bf6, be6⟩ := B6_25.out
  obtain ⟨bs7, bx7, by7, bf7, be7⟩ := B7_25.out
  obtain ⟨bs8, bx8, by8, bf8, be8⟩ := B8_25.out
  obtain ⟨bs9, bx9, by9, bf9, be9⟩ := B9_25.out
  go_wp2_with fail
  go_ret
  exact ⟨rfl, T25.out⟩

set_option maxRecDepth 100000 in
set_option maxHeartbeats 1000000 in
theorem match_long (a b c d u v : Int) (s : ByteArray) (w : World) (hs : 100 < s.size) (HL : Hid (Laid w)) : Calls Tryd.prog 3 #[.agg #[.int .i64 a, .int .i64 b], .agg #[.int .i64 c, .int .i64 d], .int .i64 u, .int .i64 v, .string s] w (Yes w) := by
  go_enter Tryd.func3, Tryd.ntmps3
  go_wp2_with fail
  have T0 := Lib.hid (Below.refl w.heap.size w)
  have G1 : Gr w ((w.alloc (.cells #[.int .i64 a, .int .i64 b] 23)).alloc (.cells #[.int .i64 c, .int .i64 d] 23)) := ((Gr.one _ _).alloc _)
  have T1 := Lib.hid (T0.out.trans (G1.below.mono T0.out.size))
  have B0_1 : Hid (Blk ((w.alloc (.cells #[.int .i64 a, .int .i64 b] 23)).alloc (.cells #[.int .i64 c, .int .i64 d] 23)) (w.heap.size) (.int .i64 a) (.int .i64 b)) := Lib.hid (Blk.at01 _ _ _ _ _)
  have B1_1 : Hid (Blk ((w.alloc (.cells #[.int .i64 a, .int .i64 b] 23)).alloc (.cells #[.int .i64 c, .int .i64 d] 23)) (w.heap.size + 1) (.int .i64 c) (.int .i64 d)) := Lib.hid (Blk.at10 _ _ _ _ _)
  generalize hw1 : ((w.alloc (.cells #[.int .i64 a, .int .i64 b] 23)).alloc (.cells #[.int .i64 c, .int .i64 d] 23)) = w1 at *
  clear hw1 G1
  obtain ⟨bs0, bx0, by0, bf0, be0⟩ := B0_1.out
  obtain ⟨bs1, bx1, by1, bf1, be1⟩ := B1_1.out
  refine (head_any _ (HL.out.keep T1.out)).mono ?_
  rintro e2 w2 ⟨rfl, hg⟩
  have T2 := Lib.hid (T1.out.trans (hg.mono T1.out.size))
  have B0_2 := Lib.hid (B0_1.out.below hg)
  have B1_2 := Lib.hid (B1_1.out.below hg)
  clear hg
  clear bs0 bx0 by0 bf0 be0 bs1 bx1 by1 bf1 be1
  obtain ⟨bs0, bx0, by0, bf0, be0⟩ := B0_2.out
  obtain ⟨bs1, bx1, by1, bf1, be1⟩ := B1_2.out
  go_wp2_with fail
  go_ret
  exact ⟨rfl, T2.out⟩

theorem of_both (u v : Int) (h8 : -9223372036854775808 ≤ u) (h9 : u ≤ 9223372036854775807) (k0 : -9223372036854775808 ≤ v) (k1 : v ≤ 9223372036854775807) : ∃ o1 o2 o3 : Int, (∀ W, Calls Tryd.prog 10 #[.int .i64 u, .int .i64 v] W fun e w' => e = .returned (.tuple #[.agg #[.int .i64 o1, .int .i64 o2], .int .i64 o3]) ∧ Below W.heap.size W w') ∧ (∀ W, Calls Tryd.prog 11 #[.int .i64 u, .int .i64 v] W fun e w' => e = .returned (.tuple #[.agg #[.int .i64 o1, .int .i64 o2], .int .i64 o3]) ∧ Below W.heap.size W w') := by
  by_cases hv : v = 0
  · subst hv
    exact ⟨0, 0, 14, fun W => (of_zero u W).mono fun _ _ h => ⟨h.1, h.2.below⟩, fun W => rof_zero u W⟩
  · exact ⟨_, _, _, fun W => of_at W h8 h9 k0 k1 hv rfl rfl rfl, fun W => rof_at W h8 h9 k0 k1 hv rfl rfl rfl⟩
theorem add_both (a b c d : Int) (h0 : -9223372036854775808 ≤ a) (h1 : a ≤ 9223372036854775807) (h2 : -9223372036854775808 ≤ b) (h3 : b ≤ 9223372036854775807) (h4 : -9223372036854775808 ≤ c) (h5 : c ≤ 9223372036854775807) (h6 : -9223372036854775808 ≤ d) (h7 : d ≤ 9223372036854775807) : ∃ p1 p2 p3 : Int, (∀ W, Calls Tryd.prog 12 #[.agg #[.int .i64 a, .int .i64 b], .agg #[.int .i64 c, .int .i64 d]] W fun e w' => e = .returned (.tuple #[.agg #[.int .i64 p1, .int .i64 p2], .int .i64 p3]) ∧ Below W.heap.size W w') ∧ (∀ W, Calls Tryd.prog 13 #[.agg #[.int .i64 a, .int .i64 b], .agg #[.int .i64 c, .int .i64 d]] W fun e w' => e = .returned (.tuple #[.agg #[.int .i64 p1, .int .i64 p2], .int .i64 p3]) ∧ Below W.heap.size W w') := by
  cases hv : (vld a b && vld c d)
  · exact ⟨_, _, _, fun W => add_no a b c d W h0 h1 h2 h3 h4 h5 h6 h7 hv, fun W => radd_no a b c d W h0 h1 h2 h3 h4 h5 h6 h7 hv⟩
  · rw [Bool.and_eq_true] at hv
    exact ⟨_, _, _, fun W => add_at W hv.1 hv.2 rfl rfl rfl, fun W => radd_at W hv.1 hv.2 rfl rfl rfl⟩
theorem mul_both (a b c d : Int) (h0 : -9223372036854775808 ≤ a) (h1 : a ≤ 9223372036854775807) (h2 : -9223372036854775808 ≤ b) (h3 : b ≤ 9223372036854775807) (h4 : -9223372036854775808 ≤ c) (h5 : c ≤ 9223372036854775807) (h6 : -9223372036854775808 ≤ d) (h7 : d ≤ 9223372036854775807) : ∃ m1 m2 m3 : Int, (∀ W, Calls Tryd.prog 14 #[.agg #[.int .i64 a, .int .i64 b], .agg #[.int .i64 c, .int .i64 d]] W fun e w' => e = .returned (.tuple #[.agg #[.int .i64 m1, .int .i64 m2], .int .i64 m3]) ∧ Below W.heap.size W w') ∧ (∀ W, Calls Tryd.prog 15 #[.agg #[.int .i64 a, .int .i64 b], .agg #[.int .i64 c, .int .i64 d]] W fun e w' => e = .returned (.tuple #[.agg #[.int .i64 m1, .int .i64 m2], .int .i64 m3]) ∧ Below W.heap.size W w') := by
  cases hv : (vld a b && vld c d)
  · exact ⟨_, _, _, fun W => mul_no a b c d W h0 h1 h2 h3 h4 h5 h6 h7 hv, fun W => rmul_no a b c d W h0 h1 h2 h3 h4 h5 h6 h7 hv⟩
  · rw [Bool.and_eq_true] at hv
    exact ⟨_, _, _, fun W => mul_at W hv.1 hv.2 rfl rfl rfl, fun W => rmul_at W hv.1 hv.2 rfl rfl rfl⟩
theorem cmp_both (a b c d : Int) (h0 : -9223372036854775808 ≤ a) (h1 : a ≤ 9223372036854775807) (h2 : -9223372036854775808 ≤ b) (h3 : b ≤ 9223372036854775807) (h4 : -9223372036854775808 ≤ c) (h5 : c ≤ 9223372036854775807) (h6 : -9223372036854775808 ≤ d) (h7 : d ≤ 9223372036854775807) : ∃ c1 c2 : Int, (∀ W, Calls Tryd.prog 18 #[.agg #[.int .i64 a, .int .i64 b], .agg #[.int .i64 c, .int .i64 d]] W fun e w' => e = .returned (.tuple #[.int .i64 c1, .int .i64 c2]) ∧ Below W.heap.size W w') ∧ (∀ W, Calls Tryd.prog 19 #[.agg #[.int .i64 a, .int .i64 b], .agg #[.int .i64 c, .int .i64 d]] W fun e w' => e = .returned (.tuple #[.int .i64 c1, .int .i64 c2]) ∧ Below W.heap.size W w') := by
  cases hv : (vld a b && vld c d)
  · exact ⟨_, _, fun W => (compare_no a b c d W h0 h1 h2 h3 h4 h5 h6 h7 hv).mono fun _ _ h => ⟨h.1, h.2.below⟩, fun W => rcmp_no a b c d W h0 h1 h2 h3 h4 h5 h6 h7 hv⟩
  · rw [Bool.and_eq_true] at hv
    exact ⟨_, _, fun W => (cmp_at W hv.1 hv.2 rfl).mono fun _ _ h => ⟨h.1, h.2.below⟩, fun W => rcmp_at W hv.1 hv.2 rfl⟩
theorem flr_both (a b : Int) (h0 : -9223372036854775808 ≤ a) (h1 : a ≤ 9223372036854775807) (h2 : -9223372036854775808 ≤ b) (h3 : b ≤ 9223372036854775807) : ∃ f1 f2 : Int, (∀ W, Calls Tryd.prog 20 #[.agg #[.int .i64 a, .int .i64 b]] W fun e w' => e = .returned (.tuple #[.int .i64 f1, .int .i64 f2]) ∧ Below W.heap.size W w') ∧ (∀ W, Calls Tryd.prog 21 #[.agg #[.int .i64 a, .int .i64 b]] W fun e w' => e = .returned (.tuple #[.int .i64 f1, .int .i64 f2]) ∧ Below W.heap.size W w') := by
  cases hv : vld a b
  · exact ⟨_, _, fun W => (floor_no a b W hv h0 h1 h2 h3).mono fun _ _ h => ⟨h.1, h.2.below⟩, fun W => rfloor_no a b W hv h0 h1 h2 h3⟩
  · exact ⟨_, _, fun W => (flr_at W hv rfl).mono fun _ _ h => ⟨h.1, h.2.below⟩, fun W => rfloor_at W hv rfl⟩
theorem txt_both (a b : Int) (h0 : -9223372036854775808 ≤ a) (h1 : a ≤ 9223372036854775807) (h2 : -9223372036854775808 ≤ b) (h3 : b ≤ 9223372036854775807) : ∃ (tt : ByteArray) (te : Int), (∀ W, Laid W → Calls Tryd.prog 22 #[.agg #[.int .i64 a, .int .i64 b]] W fun e w' => e = .returned (.tuple #[.string tt, .int .i64 te]) ∧ Below W.heap.size W w') ∧ (∀ W, Calls Tryd.prog 23 #[.agg #[.int .i64 a, .int .i64 b]] W fun e w' => e = .returned (.tuple #[.string tt, .int .i64 te]) ∧ Below W.heap.size W w') := by
  cases hv : vld a b
  · exact ⟨_, _, fun W _ => (text_no a b W hv h0 h1 h2 h3).mono fun _ _ h => ⟨h.1, h.2.below⟩, fun W => rtext_no a b W hv h0 h1 h2 h3⟩
  · exact ⟨_, _, fun W hL => (text_yes a b W hL hv).mono fun _ _ h => ⟨h.1, h.2.below⟩, fun W => rtext_yes a b W hv⟩
theorem prs_both (s : ByteArray) (hs : s.size ≤ 100) : ∃ q1 q2 q3 : Int, (∀ W, Laid W → Calls Tryd.prog 24 #[.string s] W fun e w' => e = .returned (.tuple #[.agg #[.int .i64 q1, .int .i64 q2], .int .i64 q3]) ∧ Below W.heap.size W w') ∧ (∀ W, Calls Tryd.prog 25 #[.string s] W fun e w' => e = .returned (.tuple #[.agg #[.int .i64 q1, .int .i64 q2], .int .i64 q3]) ∧ Below W.heap.size W w') := by
  by_cases hx : ∃ p q, vld p q = true ∧ txt p q = s.data.toList
  · obtain ⟨p, q, v5, ht5⟩ := hx
    exact ⟨p, q, 0, fun W hL => parse_yes p q s W hL hs v5 ht5, fun W => rparse_yes p q s W hs v5 ht5⟩
  · have hno : ∀ p q, vld p q = true → txt p q ≠ s.data.toList := fun p q x y => hx ⟨p, q, x, y⟩
    exact ⟨0, 0, 5, fun W hL => parse_no s W hL hs hno, fun W => rparse_no s W hs hno⟩
theorem match_walk (a b c d u v : Int) (s : ByteArray) (w : World) (hL : Laid w) (h0 : -9223372036854775808 ≤ a) (h1 : a ≤ 9223372036854775807) (h2 : -9223372036854775808 ≤ b) (h3 : b ≤ 9223372036854775807) (h4 : -9223372036854775808 ≤ c) (h5 : c ≤ 9223372036854775807) (h6 : -9223372036854775808 ≤ d) (h7 : d ≤ 9223372036854775807) (h8 : -9223372036854775808 ≤ u) (h9 : u ≤ 9223372036854775807) (k0 : -9223372036854775808 ≤ v) (k1 : v ≤ 9223372036854775807) : Calls Tryd.prog 3 #[.agg #[.int .i64 a, .int .i64 b], .agg #[.int .i64 c, .int .i64 d], .int .i64 u, .int .i64 v, .string s] w (Yes w) := by
  by_cases hs : s.size ≤ 100
  · obtain ⟨o1, o2, o3, O1, O2⟩ := of_both u v h8 h9 k0 k1
    obtain ⟨p1, p2, p3, A1, A2⟩ := add_both a b c d h0 h1 h2 h3 h4 h5 h6 h7
    obtain ⟨m1, m2, m3, M1, M2⟩ := mul_both a b c d h0 h1 h2 h3 h4 h5 h6 h7
    obtain ⟨c1, c2, C1, C2⟩ := cmp_both a b c d h0 h1 h2 h3 h4 h5 h6 h7
    obtain ⟨f1, f2, F1, F2⟩ := flr_both a b h0 h1 h2 h3
    obtain ⟨tt, te, T1, T2⟩ := txt_both a b h0 h1 h2 h3
    obtain ⟨q1, q2, q3, P1, P2⟩ := prs_both s hs
    exact match_core a b c d u v o1 o2 o3 p1 p2 p3 m1 m2 m3 c1 c2 f1 f2 te q1 q2 q3 (vld a b) tt s w hs (Lib.hid hL) (Lib.hid O1) (Lib.hid O2) (Lib.hid A1) (Lib.hid A2) (Lib.hid M1) (Lib.hid M2) (Lib.hid (fun W => (valid_any a b W h0 h1 h2 h3).mono fun _ _ h => ⟨h.1, h.2.below⟩)) (Lib.hid (fun W => rvalid_any a b W h0 h1 h2 h3)) (Lib.hid C1) (Lib.hid C2) (Lib.hid F1) (Lib.hid F2) (Lib.hid T1) (Lib.hid T2) (Lib.hid P1) (Lib.hid P2)
  · exact match_long a b c d u v s w (by omega) (Lib.hid hL)
end Go.Proofs.YtdmddfhjfkdlnaaDoor
