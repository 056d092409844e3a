/- The walk of the law FractionTexts. Under the condition that the tables and the library's variables lie in memory as the program lays them. -/
import Derived.Test.YtdmddfhjfkdlnaaDoorHd
namespace Go.Proofs.YtdmddfhjfkdlnaaDoor
open Go.RowKit
set_option maxRecDepth 100000 in
set_option maxHeartbeats 4000000 in
theorem texts_a0 (a b c d he : Int) (s t2 : ByteArray) (w : World) (hs : s.size ≤ 100) (HL : Hid (Laid w)) (HT1 : Hid (∀ W, Laid W → Calls Tryd.prog 22 #[.agg #[.int .i64 a, .int .i64 b]] W fun r w' => r = .returned (.tuple #[.string ⟨#[]⟩, .int .i64 1]) ∧ Gr W w')) (HT2 : Hid (∀ W, Laid W → Calls Tryd.prog 22 #[.agg #[.int .i64 c, .int .i64 d]] W fun r w' => r = .returned (.tuple #[.string t2, .int .i64 he]) ∧ Gr W w')) (HV : Hid (∀ W, Calls Tryd.prog 16 #[.agg #[.int .i64 a, .int .i64 b]] W fun e w' => e = .returned (.bool false) ∧ Gr W w')) (HP2 : Hid (∀ W, Laid W → Calls Tryd.prog 24 #[.string s] W fun e w' => e = .returned (.tuple #[.agg #[.int .i64 0, .int .i64 0], .int .i64 5]) ∧ Below W.heap.size W w')) : Calls Tryd.prog 7 #[.agg #[.int .i64 a, .int .i64 b], .agg #[.int .i64 c, .int .i64 d], .string s] w (Yes w) := by
  go_enter Tryd.func7, Tryd.ntmps7
  go_wp2_with fail
  have T0 := Lib.hid (Below.refl w.heap.size w)
  have G1 : Gr w ((w.alloc (.cells #[.int .i64 a, .int .i64 b] 23)).alloc (.cells #[.int .i64 c, .int .i64 d] 23)) := ((Gr.one _ _).alloc _)
  have T1 := Lib.hid (T0.out.trans (G1.below.mono T0.out.size))
  have B0_1 : Hid (Blk ((w.alloc (.cells #[.int .i64 a, .int .i64 b] 23)).alloc (.cells #[.int .i64 c, .int .i64 d] 23)) (w.heap.size) (.int .i64 a) (.int .i64 b)) := Lib.hid (Blk.at01 _ _ _ _ _)
  have B1_1 : Hid (Blk ((w.alloc (.cells #[.int .i64 a, .int .i64 b] 23)).alloc (.cells #[.int .i64 c, .int .i64 d] 23)) (w.heap.size + 1) (.int .i64 c) (.int .i64 d)) := Lib.hid (Blk.at10 _ _ _ _ _)
  generalize hw1 : ((w.alloc (.cells #[.int .i64 a, .int .i64 b] 23)).alloc (.cells #[.int .i64 c, .int .i64 d] 23)) = w1 at *
  clear hw1 G1
  obtain ⟨bs0, bx0, by0, bf0, be0⟩ := B0_1.out
  obtain ⟨bs1, bx1, by1, bf1, be1⟩ := B1_1.out
  refine (head_any _ (HL.out.keep T1.out)).mono ?_
  rintro e2 w2 ⟨rfl, hg⟩
  have T2 := Lib.hid (T1.out.trans (hg.mono T1.out.size))
  have B0_2 := Lib.hid (B0_1.out.below hg)
  have B1_2 := Lib.hid (B1_1.out.below hg)
  clear hg
  clear bs0 bx0 by0 bf0 be0 bs1 bx1 by1 bf1 be1
  obtain ⟨bs0, bx0, by0, bf0, be0⟩ := B0_2.out
  obtain ⟨bs1, bx1, by1, bf1, be1⟩ := B1_2.out
  go_wp2_with fail
  refine (HT1.out _ (HL.out.keep T2.out)).mono ?_
  rintro e3 w3 ⟨rfl, hg⟩
  replace hg := hg.below
  have T3 := Lib.hid (T2.out.trans (hg.mono T2.out.size))
  have B0_3 := Lib.hid (B0_2.out.below hg)
  have B1_3 := Lib.hid (B1_2.out.below hg)
  clear hg
  clear bs0 bx0 by0 bf0 be0 bs1 bx1 by1 bf1 be1
  obtain ⟨bs0, bx0, by0, bf0, be0⟩ := B0_3.out
  obtain ⟨bs1, bx1, by1, bf1, be1⟩ := B1_3.out
  go_wp2_with fail
  refine (HT2.out _ (HL.out.keep T3.out)).mono ?_
  rintro e4 w4 ⟨rfl, hg⟩
  replace hg := hg.below
  have T4 := Lib.hid (T3.out.trans (hg.mono T3.out.size))
  have B0_4 := Lib.hid (B0_3.out.below hg)
  have B1_4 := Lib.hid (B1_3.out.below hg)
  clear hg
  clear bs0 bx0 by0 bf0 be0 bs1 bx1 by1 bf1 be1
  obtain ⟨bs0, bx0, by0, bf0, be0⟩ := B0_4.out
  obtain ⟨bs1, bx1, by1, bf1, be1⟩ := B1_4.out
  go_wp2_with fail
  refine (HV.out _).mono ?_
  rintro e5 w5 ⟨rfl, hg⟩
  replace hg := hg.below
  have T5 := Lib.hid (T4.out.trans (hg.mono T4.out.size))
  have B0_5 := Lib.hid (B0_4.out.below hg)
  have B1_5 := Lib.hid (B1_4.out.below hg)
  clear hg
  clear bs0 bx0 by0 bf0 be0 bs1 bx1 by1 bf1 be1
  obtain ⟨bs0, bx0, by0, bf0, be0⟩ := B0_5.out
  obtain ⟨bs1, bx1, by1, bf1, be1⟩ := B1_5.out
  go_wp2_with fail
  refine (HP2.out _ (HL.out.keep T5.out)).mono ?_
  rintro e6 w6 ⟨rfl, hg⟩
  have T6 := Lib.hid (T5.out.trans (hg.mono T5.out.size))
  have B0_6 := Lib.hid (B0_5.out.below hg)
  have B1_6 := Lib.hid (B1_5.out.below hg)
  clear hg
  clear bs0 bx0 by0 bf0 be0 bs1 bx1 by1 bf1 be1
  obtain ⟨bs0, bx0, by0, bf0, be0⟩ := B0_6.out
  obtain ⟨bs1, bx1, by1, bf1, be1⟩ := B1_6.out
  go_wp2_with fail
  have G7 : Gr w6 (w6.alloc (.cells #[.int .i64 0, .int .i64 0] 23)) := (Gr.one _ _)
  have T7 := Lib.hid (T6.out.trans (G7.below.mono T6.out.size))
  have B0_7 := Lib.hid (B0_6.out.keep G7)
  have B1_7 := Lib.hid (B1_6.out.keep G7)
  have B2_7 : Hid (Blk (w6.alloc (.cells #[.int .i64 0, .int .i64 0] 23)) (w6.heap.size) (.int .i64 0) (.int .i64 0)) := Lib.hid (Blk.at00 _ _ _ _)
  generalize hw7 : (w6.alloc (.cells #[.int .i64 0, .int .i64 0] 23)) = w7 at *
  clear hw7 G7
  clear bs0 bx0 by0 bf0 be0 bs1 bx1 by1 bf1 be1
  obtain ⟨bs0, bx0, by0, bf0, be0⟩ := B0_7.out
  obtain ⟨bs1, bx1, by1, bf1, be1⟩ := B1_7.out
  obtain ⟨bs2, bx2, by2, bf2, be2⟩ := B2_7.out
  go_wp2_with fail
  go_ret
  exact ⟨rfl, T7.out⟩
set_option maxRecDepth 100000 in
set_option maxHeartbeats 4000000 in
theorem texts_b0 (a b c d : Int) (s t1 : ByteArray) (w : World) (hs : s.size ≤ 100) (HL : Hid (Laid w)) (HT1 : Hid (∀ W, Laid W → Calls Tryd.prog 22 #[.agg #[.int .i64 a, .int .i64 b]] W fun r w' => r = .returned (.tuple #[.string t1, .int .i64 0]) ∧ Gr W w')) (HT2 : Hid (∀ W, Laid W → Calls Tryd.prog 22 #[.agg #[.int .i64 c, .int .i64 d]] W fun r w' => r = .returned (.tuple #[.string ⟨#[]⟩, .int .i64 1]) ∧ Gr W w')) (HV : Hid (∀ W, Calls Tryd.prog 16 #[.agg #[.int .i64 a, .int .i64 b]] W fun e w' => e = .returned (.bool true) ∧ Gr W w')) (HP1 : Hid (∀ W, Laid W → Calls Tryd.prog 24 #[.string t1] W fun e w' => e = .returned (.tuple #[.agg #[.int .i64 a, .int .i64 b], .int .i64 0]) ∧ Below W.heap.size W w')) (HP2 : Hid (∀ W, Laid W → Calls Tryd.prog 24 #[.string s] W fun e w' => e = .returned (.tuple #[.agg #[.int .i64 0, .int .i64 0], .int .i64 5]) ∧ Below W.heap.size W w')) : Calls Tryd.prog 7 #[.agg #[.int .i64 a, .int .i64 b], .agg #[.int .i64 c, .int .i64 d], .string s] w (Yes w) := by
  go_enter Tryd.func7, Tryd.ntmps7
  go_wp2_with fail
  have T0 := Lib.hid (Below.refl w.heap.size w)
  have G1 : Gr w ((w.alloc (.cells #[.int .i64 a, .int .i64 b] 23)).alloc (.cells #[.int .i64 c, .int .i64 d] 23)) := ((Gr.one _ _).alloc _)
  have T1 := Lib.hid (T0.out.trans (G1.below.mono T0.out.size))
  have B0_1 : Hid (Blk ((w.alloc (.cells #[.int .i64 a, .int .i64 b] 23)).alloc (.cells #[.int .i64 c, .int .i64 d] 23)) (w.heap.size) (.int .i64 a) (.int .i64 b)) := Lib.hid (Blk.at01 _ _ _ _ _)
  have B1_1 : Hid (Blk ((w.alloc (.cells #[.int .i64 a, .int .i64 b] 23)).alloc (.cells #[.int .i64 c, .int .i64 d] 23)) (w.heap.size + 1) (.int .i64 c) (.int .i64 d)) := Lib.hid (Blk.at10 _ _ _ _ _)
  generalize hw1 : ((w.alloc (.cells #[.int .i64 a, .int .i64 b] 23)).alloc (.cells #[.int .i64 c, .int .i64 d] 23)) = w1 at *
  clear hw1 G1
  obtain ⟨bs0, bx0, by0, bf0, be0⟩ := B0_1.out
  obtain ⟨bs1, bx1, by1, bf1, be1⟩ := B1_1.out
  refine (head_any _ (HL.out.keep T1.out)).mono ?_
  rintro e2 w2 ⟨rfl, hg⟩
  have T2 := Lib.hid (T1.out.trans (hg.mono T1.out.size))
  have B0_2 := Lib.hid (B0_1.out.below hg)
  have B1_2 := Lib.hid (B1_1.out.below hg)
  clear hg
  clear bs0 bx0 by0 bf0 be0 bs1 bx1 by1 bf1 be1
  obtain ⟨bs0, bx0, by0, bf0, be0⟩ := B0_2.out
  obtain ⟨bs1, bx1, by1, bf1, be1⟩ := B1_2.out
  go_wp2_with fail
  refine (HT1.out _ (HL.out.keep T2.out)).mono ?_
  rintro e3 w3 ⟨rfl, hg⟩
  replace hg := hg.below
  have T3 := Lib.hid (T2.out.trans (hg.mono T2.out.size))
  have B0_3 := Lib.hid (B0_2.out.below hg)
  have B1_3 := Lib.hid (B1_2.out.below hg)
  clear hg
  clear bs0 bx0 by0 bf0 be0 bs1 bx1 by1 bf1 be1
  obtain ⟨bs0, bx0, by0, bf0, be0⟩ := B0_3.out
  obtain ⟨bs1, bx1, by1, bf1, be1⟩ := B1_3.out
  go_wp2_with fail
  refine (HT2.out _ (HL.out.keep T3.out)).mono ?_
  rintro e4 w4 ⟨rfl, hg⟩
  replace hg := hg.below
  have T4 := Lib.hid (T3.out.trans (hg.mono T3.out.size))
  have B0_4 := Lib.hid (B0_3.out.below hg)
  have B1_4 := Lib.hid (B1_3.out.below hg)
  clear hg
  clear bs0 bx0 by0 bf0 be0 bs1 bx1 by1 bf1 be1
  obtain ⟨bs0, bx0, by0, bf0, be0⟩ := B0_4.out
  obtain ⟨bs1, bx1, by1, bf1, be1⟩ := B1_4.out
  go_wp2_with fail
  refine (HV.out _).mono ?_
  rintro e5 w5 ⟨rfl, hg⟩
  replace hg := hg.below
  have T5 := Lib.hid (T4.out.trans (hg.mono T4.out.size))
  have B0_5 := Lib.hid (B0_4.out.below hg)
  have B1_5 := Lib.hid (B1_4.out.below hg)
  clear hg
  clear bs0 bx0 by0 bf0 be0 bs1 bx1 by1 bf1 be1
  obtain ⟨bs0, bx0, by0, bf0, be0⟩ := B0_5.out
  obtain ⟨bs1, bx1, by1, bf1, be1⟩ := B1_5.out
  go_wp2_with fail
  refine (HP1.out _ (HL.out.keep T5.out)).mono ?_
  rintro e6 w6 ⟨rfl, hg⟩
  have T6 := Lib.hid (T5.out.trans (hg.mono T5.out.size))
  have B0_6 := Lib.hid (B0_5.out.below hg)
  have B1_6 := Lib.hid (B1_5.out.below hg)
  clear hg
  clear bs0 bx0 by0 bf0 be0 bs1 bx1 by1 bf1 be1
  obtain ⟨bs0, bx0, by0, bf0, be0⟩ := B0_6.out
  obtain ⟨bs1, bx1, by1, bf1, be1⟩ := B1_6.out
  go_wp2_with fail
  have G7 : Gr w6 (w6.alloc (.cells #[.int .i64 a, .int .i64 b] 23)) := (Gr.one _ _)
  have T7 := Lib.hid (T6.out.trans (G7.below.mono T6.out.size))
  have B0_7 := Lib.hid (B0_6.out.keep G7)
  have B1_7 := Lib.hid (B1_6.out.keep G7)
  have B2_7 : Hid (Blk (w6.alloc (.cells #[.int .i64 a, .int .i64 b] 23)) (w6.heap.size) (.int .i64 a) (.int .i64 b)) := Lib.hid (Blk.at00 _ _ _ _)
  generalize hw7 : (w6.alloc (.cells #[.int .i64 a, .int .i64 b] 23)) = w7 at *
  clear hw7 G7
  clear bs0 bx0 by0 bf0 be0 bs1 bx1 by1 bf1 be1
  obtain ⟨bs0, bx0, by0, bf0, be0⟩ := B0_7.out
  obtain ⟨bs1, bx1, by1, bf1, be1⟩ := B1_7.out
  obtain ⟨bs2, bx2, by2, bf2, be2⟩ := B2_7.out
  go_wp2_with fail
  refine (HP2.out _ (HL.out.keep T7.out)).mono ?_
  rintro e8 w8 ⟨rfl, hg⟩
  have T8 := Lib.hid (T7.out.trans (hg.mono T7.out.size))
  have B0_8 := Lib.hid (B0_7.out.below hg)
  have B1_8 := Lib.hid (B1_7.out.below hg)
  have B2_8 := Lib.hid (B2_7.out.below hg)
  clear hg
  clear bs0 bx0 by0 bf0 be0 bs1 bx1 by1 bf1 be1 bs2 bx2 by2 bf2 be2
  obtain ⟨bs0, bx0, by0, bf0, be0⟩ := B0_8.out
  obtain ⟨bs1, bx1, by1, bf1, be1⟩ := B1_8.out
  obtain ⟨bs2, bx2, by2, bf2, be2⟩ := B2_8.out
  go_wp2_with fail
  have G9 : Gr w8 (w8.alloc (.cells #[.int .i64 0, .int .i64 0] 23)) := (Gr.one _ _)
  have T9 := Lib.hid (T8.out.trans (G9.below.mono T8.out.size))
  have B0_9 := Lib.hid (B0_8.out.keep G9)
  have B1_9 := Lib.hid (B1_8.out.keep G9)
  have B2_9 := Lib.hid (B2_8.out.keep G9)
  have B3_9 : Hid (Blk (w8.alloc (.cells #[.int .i64 0, .int .i64 0] 23)) (w8.heap.size) (.int .i64 0) (.int .i64 0)) := Lib.hid (Blk.at00 _ _ _ _)
  generalize hw9 : (w8.alloc (.cells #[.int .i64 0, .int .i64 0] 23)) = w9 at *
  clear hw9 G9
  clear bs0 bx0 by0 bf0 be0 bs1 bx1 by1 bf1 be1 bs2 bx2 by2 bf2 be2
  obtain ⟨bs0, bx0, by0, bf0, be0⟩ := B0_9.out
  obtain ⟨bs1, bx1, by1, bf1, be1⟩ := B1_9.out
  obtain ⟨bs2, bx2, by2, bf2, be2⟩ := B2_9.out
  obtain ⟨bs3, bx3, by3, bf3, be3⟩ := B3_9.out
  go_wp2_with fail
  go_ret
  exact ⟨rfl, T9.out⟩
set_option maxRecDepth 100000 in
set_option maxHeartbeats 4000000 in
theorem texts_c0 (a b : Int) (s t1 : ByteArray) (w : World) (hs : s.size ≤ 100) (HL : Hid (Laid w)) (HT1 : Hid (∀ W, Laid W → Calls Tryd.prog 22 #[.agg #[.int .i64 a, .int .i64 b]] W fun r w' => r = .returned (.tuple #[.string t1, .int .i64 0]) ∧ Gr W w')) (HT2 : Hid (∀ W, Laid W → Calls Tryd.prog 22 #[.agg #[.int .i64 a, .int .i64 b]] W fun r w' => r = .returned (.tuple #[.string t1, .int .i64 0]) ∧ Gr W w')) (HV : Hid (∀ W, Calls Tryd.prog 16 #[.agg #[.int .i64 a, .int .i64 b]] W fun e w' => e = .returned (.bool true) ∧ Gr W w')) (HP1 : Hid (∀ W, Laid W → Calls Tryd.prog 24 #[.string t1] W fun e w' => e = .returned (.tuple #[.agg #[.int .i64 a, .int .i64 b], .int .i64 0]) ∧ Below W.heap.size W w')) (HP2 : Hid (∀ W, Laid W → Calls Tryd.prog 24 #[.string s] W fun e w' => e = .returned (.tuple #[.agg #[.int .i64 0, .int .i64 0], .int .i64 5]) ∧ Below W.heap.size W w')) : Calls Tryd.prog 7 #[.agg #[.int .i64 a, .int .i64 b], .agg #[.int .i64 a, .int .i64 b], .string s] w (Yes w) := by
  go_enter Tryd.func7, Tryd.ntmps7
  go_wp2_with fail
  have T0 := Lib.hid (Below.refl w.heap.size w)
  have G1 : Gr w ((w.alloc (.cells #[.int .i64 a, .int .i64 b] 23)).alloc (.cells #[.int .i64 a, .int .i64 b] 23)) := ((Gr.one _ _).alloc _)
  have T1 := Lib.hid (T0.out.trans (G1.below.mono T0.out.size))
  have B0_1 : Hid (Blk ((w.alloc (.cells #[.int .i64 a, .int .i64 b] 23)).alloc (.cells #[.int .i64 a, .int .i64 b] 23)) (w.heap.size) (.int .i64 a) (.int .i64 b)) := Lib.hid (Blk.at01 _ _ _ _ _)
  have B1_1 : Hid (Blk ((w.alloc (.cells #[.int .i64 a, .int .i64 b] 23)).alloc (.cells #[.int .i64 a, .int .i64 b] 23)) (w.heap.size + 1) (.int .i64 a) (.int .i64 b)) := Lib.hid (Blk.at10 _ _ _ _ _)
  generalize hw1 : ((w.alloc (.cells #[.int .i64 a, .int .i64 b] 23)).alloc (.cells #[.int .i64 a, .int .i64 b] 23)) = w1 at *
  clear hw1 G1
  obtain ⟨bs0, bx0, by0, bf0, be0⟩ := B0_1.out
  obtain ⟨bs1, bx1, by1, bf1, be1⟩ := B1_1.out
  refine (head_any _ (HL.out.keep T1.out)).mono ?_
  rintro e2 w2 ⟨rfl, hg⟩
  have T2 := Lib.hid (T1.out.trans (hg.mono T1.out.size))
  have B0_2 := Lib.hid (B0_1.out.below hg)
  have B1_2 := Lib.hid (B1_1.out.below hg)
  clear hg
  clear bs0 bx0 by0 bf0 be0 bs1 bx1 by1 bf1 be1
  obtain ⟨bs0, bx0, by0, bf0, be0⟩ := B0_2.out
  obtain ⟨bs1, bx1, by1, bf1, be1⟩ := B1_2.out
  go_wp2_with fail
  refine (HT1.out _ (HL.out.keep T2.out)).mono ?_
  rintro e3 w3 ⟨rfl, hg⟩
  replace hg := hg.below
  have T3 := Lib.hid (T2.out.trans (hg.mono T2.out.size))
  have B0_3 := Lib.hid (B0_2.out.below hg)
  have B1_3 := Lib.hid (B1_2.out.below hg)
  clear hg
  clear bs0 bx0 by0 bf0 be0 bs1 bx1 by1 bf1 be1
  obtain ⟨bs0, bx0, by0, bf0, be0⟩ := B0_3.out
  obtain ⟨bs1, bx1, by1, bf1, be1⟩ := B1_3.out
  go_wp2_with fail
  refine (HT2.out _ (HL.out.keep T3.out)).mono ?_
  rintro e4 w4 ⟨rfl, hg⟩
  replace hg := hg.below
  have T4 := Lib.hid (T3.out.trans (hg.mono T3.out.size))
  have B0_4 := Lib.hid (B0_3.out.below hg)
  have B1_4 := Lib.hid (B1_3.out.below hg)
  clear hg
  clear bs0 bx0 by0 bf0 be0 bs1 bx1 by1 bf1 be1
  obtain ⟨bs0, bx0, by0, bf0, be0⟩ := B0_4.out
  obtain ⟨bs1, bx1, by1, bf1, be1⟩ := B1_4.out
  go_wp2_with fail
  refine (HV.out _).mono ?_
  rintro e5 w5 ⟨rfl, hg⟩
  replace hg := hg.below
  have T5 := Lib.hid (T4.out.trans (hg.mono T4.out.size))
  have B0_5 := Lib.hid (B0_4.out.below hg)
  have B1_5 := Lib.hid (B1_4.out.below hg)
  clear hg
  clear bs0 bx0 by0 bf0 be0 bs1 bx1 by1 bf1 be1
  obtain ⟨bs0, bx0, by0, bf0, be0⟩ := B0_5.out
  obtain ⟨bs1, bx1, by1, bf1, be1⟩ := B1_5.out
  go_wp2_with fail
  refine (HP1.out _ (HL.out.keep T5.out)).mono ?_
  rintro e6 w6 ⟨rfl, hg⟩
  have T6 := Lib.hid (T5.out.trans (hg.mono T5.out.size))
  have B0_6 := Lib.hid (B0_5.out.below hg)
  have B1_6 := Lib.hid (B1_5.out.below hg)
  clear hg
  clear bs0 bx0 by0 bf0 be0 bs1 bx1 by1 bf1 be1
  obtain ⟨bs0, bx0, by0, bf0, be0⟩ := B0_6.out
  obtain ⟨bs1, bx1, by1, bf1, be1⟩ := B1_6.out
  go_wp2_with fail
  have G7 : Gr w6 (w6.alloc (.cells #[.int .i64 a, .int .i64 b] 23)) := (Gr.one _ _)
  have T7 := Lib.hid (T6.out.trans (G7.below.mono T6.out.size))
  have B0_7 := Lib.hid (B0_6.out.keep G7)
  have B1_7 := Lib.hid (B1_6.out.keep G7)
  have B2_7 : Hid (Blk (w6.alloc (.cells #[.int .i64 a, .int .i64 b] 23)) (w6.heap.size) (.int .i64 a) (.int .i64 b)) := Lib.hid (Blk.at00 _ _ _ _)
  generalize hw7 : (w6.alloc (.cells #[.int .i64 a, .int .i64 b] 23)) = w7 at *
  clear hw7 G7
  clear bs0 bx0 by0 bf0 be0 bs1 bx1 by1 bf1 be1
  obtain ⟨bs0, bx0, by0, bf0, be0⟩ := B0_7.out
  obtain ⟨bs1, bx1, by1, bf1, be1⟩ := B1_7.out
  obtain ⟨bs2, bx2, by2, bf2, be2⟩ := B2_7.out
  go_wp2_with fail
  refine (HP2.out _ (HL.out.keep T7.out)).mono ?_
  rintro e8 w8 ⟨rfl, hg⟩
  have T8 := Lib.hid (T7.out.trans (hg.mono T7.out.size))
  have B0_8 := Lib.hid (B0_7.out.below hg)
  have B1_8 := Lib.hid (B1_7.out.below hg)
  have B2_8 := Lib.hid (B2_7.out.below hg)
  clear hg
  clear bs0 bx0 by0 bf0 be0 bs1 bx1 by1 bf1 be1 bs2 bx2 by2 bf2 be2
  obtain ⟨bs0, bx0, by0, bf0, be0⟩ := B0_8.out
  obtain ⟨bs1, bx1, by1, bf1, be1⟩ := B1_8.out
  obtain ⟨bs2, bx2, by2, bf2, be2⟩ := B2_8.out
  go_wp2_with fail
  have G9 : Gr w8 (w8.alloc (.cells #[.int .i64 0, .int .i64 0] 23)) := (Gr.one _ _)
  have T9 := Lib.hid (T8.out.trans (G9.below.mono T8.out.size))
  have B0_9 := Lib.hid (B0_8.out.keep G9)
  have B1_9 := Lib.hid (B1_8.out.keep G9)
  have B2_9 := Lib.hid (B2_8.out.keep G9)
  have B3_9 : Hid (Blk (w8.alloc (.cells #[.int .i64 0, .int .i64 0] 23)) (w8.heap.size) (.int .i64 0) (.int .i64 0)) := Lib.hid (Blk.at00 _ _ _ _)
  generalize hw9 : (w8.alloc (.cells #[.int .i64 0, .int .i64 0] 23)) = w9 at *
  clear hw9 G9
  clear bs0 bx0 by0 bf0 be0 bs1 bx1 by1 bf1 be1 bs2 bx2 by2 bf2 be2
  obtain ⟨bs0, bx0, by0, bf0, be0⟩ := B0_9.out
  obtain ⟨bs1, bx1, by1, bf1, be1⟩ := B1_9.out
  obtain ⟨bs2, bx2, by2, bf2, be2⟩ := B2_9.out
  obtain ⟨bs3, bx3, by3, bf3, be3⟩ := B3_9.out
  go_wp2_with fail
  go_ret
  exact ⟨rfl, T9.out⟩
set_option maxRecDepth 100000 in
set_option maxHeartbeats 4000000 in
theorem texts_d0 (a b c d : Int) (s t1 t2 : ByteArray) (w : World) (hs : s.size ≤ 100) (HL : Hid (Laid w)) (hne : ¬ (a = c ∧ b = d)) (ht : (t1.toList == t2.toList) = false) (HT1 : Hid (∀ W, Laid W → Calls Tryd.prog 22 #[.agg #[.int .i64 a, .int .i64 b]] W fun r w' => r = .returned (.tuple #[.string t1, .int .i64 0]) ∧ Gr W w')) (HT2 : Hid (∀ W, Laid W → Calls Tryd.prog 22 #[.agg #[.int .i64 c, .int .i64 d]] W fun r w' => r = .returned (.tuple #[.string t2, .int .i64 0]) ∧ Gr W w')) (HV : Hid (∀ W, Calls Tryd.prog 16 #[.agg #[.int .i64 a, .int .i64 b]] W fun e w' => e = .returned (.bool true) ∧ Gr W w')) (HP1 : Hid (∀ W, Laid W → Calls Tryd.prog 24 #[.string t1] W fun e w' => e = .returned (.tuple #[.agg #[.int .i64 a, .int .i64 b], .int .i64 0]) ∧ Below W.heap.size W w')) (HP2 : Hid (∀ W, Laid W → Calls Tryd.prog 24 #[.string s] W fun e w' => e = .returned (.tuple #[.agg #[.int .i64 0, .int .i64 0], .int .i64 5]) ∧ Below W.heap.size W w')) : Calls Tryd.prog 7 #[.agg #[.int .i64 a, .int .i64 b], .agg #[.int .i64 c, .int .i64 d], .string s] w (Yes w) := by
  rcases ne_bools hne with b1 | ⟨b1, b2⟩
  all_goals
    clear hne
    go_enter Tryd.func7, Tryd.ntmps7
    go_wp2_with fail
    have T0 := Lib.hid (Below.refl w.heap.size w)
    have G1 : Gr w ((w.alloc (.cells #[.int .i64 a, .int .i64 b] 23)).alloc (.cells #[.int .i64 c, .int .i64 d] 23)) := ((Gr.one _ _).alloc _)
    have T1 := Lib.hid (T0.out.trans (G1.below.mono T0.out.size))
    have B0_1 : Hid (Blk ((w.alloc (.cells #[.int .i64 a, .int .i64 b] 23)).alloc (.cells #[.int .i64 c, .int .i64 d] 23)) (w.heap.size) (.int .i64 a) (.int .i64 b)) := Lib.hid (Blk.at01 _ _ _ _ _)
    have B1_1 : Hid (Blk ((w.alloc (.cells #[.int .i64 a, .int .i64 b] 23)).alloc (.cells #[.int .i64 c, .int .i64 d] 23)) (w.heap.size + 1) (.int .i64 c) (.int .i64 d)) := Lib.hid (Blk.at10 _ _ _ _ _)
    generalize hw1 : ((w.alloc (.cells #[.int .i64 a, .int .i64 b] 23)).alloc (.cells #[.int .i64 c, .int .i64 d] 23)) = w1 at *
    clear hw1 G1
    obtain ⟨bs0, bx0, by0, bf0, be0⟩ := B0_1.out
    obtain ⟨bs1, bx1, by1, bf1, be1⟩ := B1_1.out
    refine (head_any _ (HL.out.keep T1.out)).mono ?_
    rintro e2 w2 ⟨rfl, hg⟩
    have T2 := Lib.hid (T1.out.trans (hg.mono T1.out.size))
    have B0_2 := Lib.hid (B0_1.out.below hg)
    have B1_2 := Lib.hid (B1_1.out.below hg)
    clear hg
    clear bs0 bx0 by0 bf0 be0 bs1 bx1 by1 bf1 be1
    obtain ⟨bs0, bx0, by0, bf0, be0⟩ := B0_2.out
    obtain ⟨bs1, bx1, by1, bf1, be1⟩ := B1_2.out
    go_wp2_with fail
    refine (HT1.out _ (HL.out.keep T2.out)).mono ?_
    rintro e3 w3 ⟨rfl, hg⟩
    replace hg := hg.below
    have T3 := Lib.hid (T2.out.trans (hg.mono T2.out.size))
    have B0_3 := Lib.hid (B0_2.out.below hg)
    have B1_3 := Lib.hid (B1_2.out.below hg)
    clear hg
    clear bs0 bx0 by0 bf0 be0 bs1 bx1 by1 bf1 be1
    obtain ⟨bs0, bx0, by0, bf0, be0⟩ := B0_3.out
    obtain ⟨bs1, bx1, by1, bf1, be1⟩ := B1_3.out
    go_wp2_with fail
    refine (HT2.out _ (HL.out.keep T3.out)).mono ?_
    rintro e4 w4 ⟨rfl, hg⟩
    replace hg := hg.below
    have T4 := Lib.hid (T3.out.trans (hg.mono T3.out.size))
    have B0_4 := Lib.hid (B0_3.out.below hg)
    have B1_4 := Lib.hid (B1_3.out.below hg)
    clear hg
    clear bs0 bx0 by0 bf0 be0 bs1 bx1 by1 bf1 be1
    obtain ⟨bs0, bx0, by0, bf0, be0⟩ := B0_4.out
    obtain ⟨bs1, bx1, by1, bf1, be1⟩ := B1_4.out
    go_wp2_with fail
    refine (HV.out _).mono ?_
    rintro e5 w5 ⟨rfl, hg⟩
    replace hg := hg.below
    have T5 := Lib.hid (T4.out.trans (hg.mono T4.out.size))
    have B0_5 := Lib.hid (B0_4.out.below hg)
    have B1_5 := Lib.hid (B1_4.out.below hg)
    clear hg
    clear bs0 bx0 by0 bf0 be0 bs1 bx1 by1 bf1 be1
    obtain ⟨bs0, bx0, by0, bf0, be0⟩ := B0_5.out
    obtain ⟨bs1, bx1, by1, bf1, be1⟩ := B1_5.out
    go_wp2_with fail
    refine (HP1.out _ (HL.out.keep T5.out)).mono ?_
    rintro e6 w6 ⟨rfl, hg⟩
    have T6 := Lib.hid (T5.out.trans (hg.mono T5.out.size))
    have B0_6 := Lib.hid (B0_5.out.below hg)
    have B1_6 := Lib.hid (B1_5.out.below hg)
    clear hg
    clear bs0 bx0 by0 bf0 be0 bs1 bx1 by1 bf1 be1
    obtain ⟨bs0, bx0, by0, bf0, be0⟩ := B0_6.out
    obtain ⟨bs1, bx1, by1, bf1, be1⟩ := B1_6.out
    go_wp2_with fail
    have G7 : Gr w6 (w6.alloc (.cells #[.int .i64 a, .int .i64 b] 23)) := (Gr.one _ _)
    have T7 := Lib.hid (T6.out.trans (G7.below.mono T6.out.size))
    have B0_7 := Lib.hid (B0_6.out.keep G7)
    have B1_7 := Lib.hid (B1_6.out.keep G7)
    have B2_7 : Hid (Blk (w6.alloc (.cells #[.int .i64 a, .int .i64 b] 23)) (w6.heap.size) (.int .i64 a) (.int .i64 b)) := Lib.hid (Blk.at00 _ _ _ _)
    generalize hw7 : (w6.alloc (.cells #[.int .i64 a, .int .i64 b] 23)) = w7 at *
    clear hw7 G7
    clear bs0 bx0 by0 bf0 be0 bs1 bx1 by1 bf1 be1
    obtain ⟨bs0, bx0, by0, bf0, be0⟩ := B0_7.out
    obtain ⟨bs1, bx1, by1, bf1, be1⟩ := B1_7.out
    obtain ⟨bs2, bx2, by2, bf2, be2⟩ := B2_7.out
    go_wp2_with fail
    refine (HP2.out _ (HL.out.keep T7.out)).mono ?_
    rintro e8 w8 ⟨rfl, hg⟩
    have T8 := Lib.hid (T7.out.trans (hg.mono T7.out.size))
    have B0_8 := Lib.hid (B0_7.out.below hg)
    have B1_8 := Lib.hid (B1_7.out.below hg)
    have B2_8 := Lib.hid (B2_7.out.below hg)
    clear hg
    clear bs0 bx0 by0 bf0 be0 bs1 bx1 by1 bf1 be1 bs2 bx2 by2 bf2 be2
    obtain ⟨bs0, bx0, by0, bf0, be0⟩ := B0_8.out
    obtain ⟨bs1, bx1, by1, bf1, be1⟩ := B1_8.out
    obtain ⟨bs2, bx2, by2, bf2, be2⟩ := B2_8.out
    go_wp2_with fail
    have G9 : Gr w8 (w8.alloc (.cells #[.int .i64 0, .int .i64 0] 23)) := (Gr.one _ _)
    have T9 := Lib.hid (T8.out.trans (G9.below.mono T8.out.size))
    have B0_9 := Lib.hid (B0_8.out.keep G9)
    have B1_9 := Lib.hid (B1_8.out.keep G9)
    have B2_9 := Lib.hid (B2_8.out.keep G9)
    have B3_9 : Hid (Blk (w8.alloc (.cells #[.int .i64 0, .int .i64 0] 23)) (w8.heap.size) (.int .i64 0) (.int .i64 0)) := Lib.hid (Blk.at00 _ _ _ _)
    generalize hw9 : (w8.alloc (.cells #[.int .i64 0, .int .i64 0] 23)) = w9 at *
    clear hw9 G9
    clear bs0 bx0 by0 bf0 be0 bs1 bx1 by1 bf1 be1 bs2 bx2 by2 bf2 be2
    obtain ⟨bs0, bx0, by0, bf0, be0⟩ := B0_9.out
    obtain ⟨bs1, bx1, by1, bf1, be1⟩ := B1_9.out
    obtain ⟨bs2, bx2, by2, bf2, be2⟩ := B2_9.out
    obtain ⟨bs3, bx3, by3, bf3, be3⟩ := B3_9.out
    go_wp2_with fail
    go_ret
    exact ⟨rfl, T9.out⟩
set_option maxRecDepth 100000 in
set_option maxHeartbeats 4000000 in
theorem texts_a1 (a b c d p q he : Int) (s t2 : ByteArray) (w : World) (hs : s.size ≤ 100) (HL : Hid (Laid w)) (HT1 : Hid (∀ W, Laid W → Calls Tryd.prog 22 #[.agg #[.int .i64 a, .int .i64 b]] W fun r w' => r = .returned (.tuple #[.string ⟨#[]⟩, .int .i64 1]) ∧ Gr W w')) (HT2 : Hid (∀ W, Laid W → Calls Tryd.prog 22 #[.agg #[.int .i64 c, .int .i64 d]] W fun r w' => r = .returned (.tuple #[.string t2, .int .i64 he]) ∧ Gr W w')) (HV : Hid (∀ W, Calls Tryd.prog 16 #[.agg #[.int .i64 a, .int .i64 b]] W fun e w' => e = .returned (.bool false) ∧ Gr W w')) (HP2 : Hid (∀ W, Laid W → Calls Tryd.prog 24 #[.string s] W fun e w' => e = .returned (.tuple #[.agg #[.int .i64 p, .int .i64 q], .int .i64 0]) ∧ Below W.heap.size W w')) (HT3 : Hid (∀ W, Laid W → Calls Tryd.prog 22 #[.agg #[.int .i64 p, .int .i64 q]] W fun r w' => r = .returned (.tuple #[.string s, .int .i64 0]) ∧ Gr W w')) : Calls Tryd.prog 7 #[.agg #[.int .i64 a, .int .i64 b], .agg #[.int .i64 c, .int .i64 d], .string s] w (Yes w) := by
  go_enter Tryd.func7, Tryd.ntmps7
  go_wp2_with fail
  have T0 := Lib.hid (Below.refl w.heap.size w)
  have G1 : Gr w ((w.alloc (.cells #[.int .i64 a, .int .i64 b] 23)).alloc (.cells #[.int .i64 c, .int .i64 d] 23)) := ((Gr.one _ _).alloc _)
  have T1 := Lib.hid (T0.out.trans (G1.below.mono T0.out.size))
  have B0_1 : Hid (Blk ((w.alloc (.cells #[.int .i64 a, .int .i64 b] 23)).alloc (.cells #[.int .i64 c, .int .i64 d] 23)) (w.heap.size) (.int .i64 a) (.int .i64 b)) := Lib.hid (Blk.at01 _ _ _ _ _)
  have B1_1 : Hid (Blk ((w.alloc (.cells #[.int .i64 a, .int .i64 b] 23)).alloc (.cells #[.int .i64 c, .int .i64 d] 23)) (w.heap.size + 1) (.int .i64 c) (.int .i64 d)) := Lib.hid (Blk.at10 _ _ _ _ _)
  generalize hw1 : ((w.alloc (.cells #[.int .i64 a, .int .i64 b] 23)).alloc (.cells #[.int .i64 c, .int .i64 d] 23)) = w1 at *
  clear hw1 G1
  obtain ⟨bs0, bx0, by0, bf0, be0⟩ := B0_1.out
  obtain ⟨bs1, bx1, by1, bf1, be1⟩ := B1_1.out
  refine (head_any _ (HL.out.keep T1.out)).mono ?_
  rintro e2 w2 ⟨rfl, hg⟩
  have T2 := Lib.hid (T1.out.trans (hg.mono T1.out.size))
  have B0_2 := Lib.hid (B0_1.out.below hg)
  have B1_2 := Lib.hid (B1_1.out.below hg)
  clear hg
  clear bs0 bx0 by0 bf0 be0 bs1 bx1 by1 bf1 be1
  obtain ⟨bs0, bx0, by0, bf0, be0⟩ := B0_2.out
  obtain ⟨bs1, bx1, by1, bf1, be1⟩ := B1_2.out
  go_wp2_with fail
  refine (HT1.out _ (HL.out.keep T2.out)).mono ?_
  rintro e3 w3 ⟨rfl, hg⟩
  replace hg := hg.below
  have T3 := Lib.hid (T2.out.trans (hg.mono T2.out.size))
  have B0_3 := Lib.hid (B0_2.out.below hg)
  have B1_3 := Lib.hid (B1_2.out.below hg)
  clear hg
  clear bs0 bx0 by0 bf0 be0 bs1 bx1 by1 bf1 be1
  obtain ⟨bs0, bx0, by0, bf0, be0⟩ := B0_3.out
  obtain ⟨bs1, bx1, by1, bf1, be1⟩ := B1_3.out
  go_wp2_with fail
  refine (HT2.out _ (HL.out.keep T3.out)).mono ?_
  rintro e4 w4 ⟨rfl, hg⟩
  replace hg := hg.below
  have T4 := Lib.hid (T3.out.trans (hg.mono T3.out.size))
  have B0_4 := Lib.hid (B0_3.out.below hg)
  have B1_4 := Lib.hid (B1_3.out.below hg)
  clear hg
  clear bs0 bx0 by0 bf0 be0 bs1 bx1 by1 bf1 be1
  obtain ⟨bs0, bx0, by0, bf0, be0⟩ := B0_4.out
  obtain ⟨bs1, bx1, by1, bf1, be1⟩ := B1_4.out
  go_wp2_with fail
  refine (HV.out _).mono ?_
  rintro e5 w5 ⟨rfl, hg⟩
  replace hg := hg.below
  have T5 := Lib.hid (T4.out.trans (hg.mono T4.out.size))
  have B0_5 := Lib.hid (B0_4.out.below hg)
  have B1_5 := Lib.hid (B1_4.out.below hg)
  clear hg
  clear bs0 bx0 by0 bf0 be0 bs1 bx1 by1 bf1 be1
  obtain ⟨bs0, bx0, by0, bf0, be0⟩ := B0_5.out
  obtain ⟨bs1, bx1, by1, bf1, be1⟩ := B1_5.out
  go_wp2_with fail
  refine (HP2.out _ (HL.out.keep T5.out)).mono ?_
  rintro e6 w6 ⟨rfl, hg⟩
  have T6 := Lib.hid (T5.out.trans (hg.mono T5.out.size))
  have B0_6 := Lib.hid (B0_5.out.below hg)
  have B1_6 := Lib.hid (B1_5.out.below hg)
  clear hg
  clear bs0 bx0 by0 bf0 be0 bs1 bx1 by1 bf1 be1
  obtain ⟨bs0, bx0, by0, bf0, be0⟩ := B0_6.out
  obtain ⟨bs1, bx1, by1, bf1, be1⟩ := B1_6.out
  go_wp2_with fail
  have G7 : Gr w6 (w6.alloc (.cells #[.int .i64 p, .int .i64 q] 23)) := (Gr.one _ _)
  have T7 := Lib.hid (T6.out.trans (G7.below.mono T6.out.size))
  have B0_7 := Lib.hid (B0_6.out.keep G7)
  have B1_7 := Lib.hid (B1_6.out.keep G7)
  have B2_7 : Hid (Blk (w6.alloc (.cells #[.int .i64 p, .int .i64 q] 23)) (w6.heap.size) (.int .i64 p) (.int .i64 q)) := Lib.hid (Blk.at00 _ _ _ _)
  generalize hw7 : (w6.alloc (.cells #[.int .i64 p, .int .i64 q] 23)) = w7 at *
  clear hw7 G7
  clear bs0 bx0 by0 bf0 be0 bs1 bx1 by1 bf1 be1
  obtain ⟨bs0, bx0, by0, bf0, be0⟩ := B0_7.out
  obtain ⟨bs1, bx1, by1, bf1, be1⟩ := B1_7.out
  obtain ⟨bs2, bx2, by2, bf2, be2⟩ := B2_7.out
  refine (HT3.out _ (HL.out.keep T7.out)).mono ?_
  rintro e8 w8 ⟨rfl, hg⟩
  replace hg := hg.below
  have T8 := Lib.hid (T7.out.trans (hg.mono T7.out.size))
  have B0_8 := Lib.hid (B0_7.out.below hg)
  have B1_8 := Lib.hid (B1_7.out.below hg)
  have B2_8 := Lib.hid (B2_7.out.below hg)
  clear hg
  clear bs0 bx0 by0 bf0 be0 bs1 bx1 by1 bf1 be1 bs2 bx2 by2 bf2 be2
  obtain ⟨bs0, bx0, by0, bf0, be0⟩ := B0_8.out
  obtain ⟨bs1, bx1, by1, bf1, be1⟩ := B1_8.out
  obtain ⟨bs2, bx2, by2, bf2, be2⟩ := B2_8.out
  go_wp2_with fail
  go_ret
  exact ⟨rfl, T8.out⟩
set_option maxRecDepth 100000 in
set_option maxHeartbeats 4000000 in
theorem texts_b1 (a b c d p q : Int) (s t1 : ByteArray) (w : World) (hs : s.size ≤ 100) (HL : Hid (Laid w)) (HT1 : Hid (∀ W, Laid W → Calls Tryd.prog 22 #[.agg #[.int .i64 a, .int .i64 b]] W fun r w' => r = .returned (.tuple #[.string t1, .int .i64 0]) ∧ Gr W w')) (HT2 : Hid (∀ W, Laid W → Calls Tryd.prog 22 #[.agg #[.int .i64 c, .int .i64 d]] W fun r w' => r = .returned (.tuple #[.string ⟨#[]⟩, .int .i64 1]) ∧ Gr W w')) (HV : Hid (∀ W, Calls Tryd.prog 16 #[.agg #[.int .i64 a, .int .i64 b]] W fun e w' => e = .returned (.bool true) ∧ Gr W w')) (HP1 : Hid (∀ W, Laid W → Calls Tryd.prog 24 #[.string t1] W fun e w' => e = .returned (.tuple #[.agg #[.int .i64 a, .int .i64 b], .int .i64 0]) ∧ Below W.heap.size W w')) (HP2 : Hid (∀ W, Laid W → Calls Tryd.prog 24 #[.string s] W fun e w' => e = .returned (.tuple #[.agg #[.int .i64 p, .int .i64 q], .int .i64 0]) ∧ Below W.heap.size W w')) (HT3 : Hid (∀ W, Laid W → Calls Tryd.prog 22 #[.agg #[.int .i64 p, .int .i64 q]] W fun r w' => r = .returned (.tuple #[.string s, .int .i64 0]) ∧ Gr W w')) : Calls Tryd.prog 7 #[.agg #[.int .i64 a, .int .i64 b], .agg #[.int .i64 c, .int .i64 d], .string s] w (Yes w) := by
  go_enter Tryd.func7, Tryd.ntmps7
  go_wp2_with fail
  have T0 := Lib.hid (Below.refl w.heap.size w)
  have G1 : Gr w ((w.alloc (.cells #[.int .i64 a, .int .i64 b] 23)).alloc (.cells #[.int .i64 c, .int .i64 d] 23)) := ((Gr.one _ _).alloc _)
  have T1 := Lib.hid (T0.out.trans (G1.below.mono T0.out.size))
  have B0_1 : Hid (Blk ((w.alloc (.cells #[.int .i64 a, .int .i64 b] 23)).alloc (.cells #[.int .i64 c, .int .i64 d] 23)) (w.heap.size) (.int .i64 a) (.int .i64 b)) := Lib.hid (Blk.at01 _ _ _ _ _)
  have B1_1 : Hid (Blk ((w.alloc (.cells #[.int .i64 a, .int .i64 b] 23)).alloc (.cells #[.int .i64 c, .int .i64 d] 23)) (w.heap.size + 1) (.int .i64 c) (.int .i64 d)) := Lib.hid (Blk.at10 _ _ _ _ _)
  generalize hw1 : ((w.alloc (.cells #[.int .i64 a, .int .i64 b] 23)).alloc (.cells #[.int .i64 c, .int .i64 d] 23)) = w1 at *
  clear hw1 G1
  obtain ⟨bs0, bx0, by0, bf0, be0⟩ := B0_1.out
  obtain ⟨bs1, bx1, by1, bf1, be1⟩ := B1_1.out
  refine (head_any _ (HL.out.keep T1.out)).mono ?_
  rintro e2 w2 ⟨rfl, hg⟩
  have T2 := Lib.hid (T1.out.trans (hg.mono T1.out.size))
  have B0_2 := Lib.hid (B0_1.out.below hg)
  have B1_2 := Lib.hid (B1_1.out.below hg)
  clear hg
  clear bs0 bx0 by0 bf0 be0 bs1 bx1 by1 bf1 be1
  obtain ⟨bs0, bx0, by0, bf0, be0⟩ := B0_2.out
  obtain ⟨bs1, bx1, by1, bf1, be1⟩ := B1_2.out
  go_wp2_with fail
  refine (HT1.out _ (HL.out.keep T2.out)).mono ?_
  rintro e3 w3 ⟨rfl, hg⟩
  replace hg := hg.below
  have T3 := Lib.hid (T2.out.trans (hg.mono T2.out.size))
  have B0_3 := Lib.hid (B0_2.out.below hg)
  have B1_3 := Lib.hid (B1_2.out.below hg)
  clear hg
  clear bs0 bx0 by0 bf0 be0 bs1 bx1 by1 bf1 be1
  obtain ⟨bs0, bx0, by0, bf0, be0⟩ := B0_3.out
  obtain ⟨bs1, bx1, by1, bf1, be1⟩ := B1_3.out
  go_wp2_with fail
  refine (HT2.out _ (HL.out.keep T3.out)).mono ?_
  rintro e4 w4 ⟨rfl, hg⟩
  replace hg := hg.below
  have T4 := Lib.hid (T3.out.trans (hg.mono T3.out.size))
  have B0_4 := Lib.hid (B0_3.out.below hg)
  have B1_4 := Lib.hid (B1_3.out.below hg)
  clear hg
  clear bs0 bx0 by0 bf0 be0 bs1 bx1 by1 bf1 be1
  obtain ⟨bs0, bx0, by0, bf0, be0⟩ := B0_4.out
  obtain ⟨bs1, bx1, by1, bf1, be1⟩ := B1_4.out
  go_wp2_with fail
  refine (HV.out _).mono ?_
  rintro e5 w5 ⟨rfl, hg⟩
  replace hg := hg.below
  have T5 := Lib.hid (T4.out.trans (hg.mono T4.out.size))
  have B0_5 := Lib.hid (B0_4.out.below hg)
  have B1_5 := Lib.hid (B1_4.out.below hg)
  clear hg
  clear bs0 bx0 by0 bf0 be0 bs1 bx1 by1 bf1 be1
  obtain ⟨bs0, bx0, by0, bf0, be0⟩ := B0_5.out
  obtain ⟨bs1, bx1, by1, bf1, be1⟩ := B1_5.out
  go_wp2_with fail
  refine (HP1.out _ (HL.out.keep T5.out)).mono ?_
  rintro e6 w6 ⟨rfl, hg⟩
  have T6 := Lib.hid (T5.out.trans (hg.mono T5.out.size))
  have B0_6 := Lib.hid (B0_5.out.below hg)
  have B1_6 := Lib.hid (B1_5.out.below hg)
  clear hg
  clear bs0 bx0 by0 bf0 be0 bs1 bx1 by1 bf1 be1
  obtain ⟨bs0, bx0, by0, bf0, be0⟩ := B0_6.out
  obtain ⟨bs1, bx1, by1, bf1, be1⟩ := B1_6.out
  go_wp2_with fail
  have G7 : Gr w6 (w6.alloc (.cells #[.int .i64 a, .int .i64 b] 23)) := (Gr.one _ _)
  have T7 := Lib.hid (T6.out.trans (G7.below.mono T6.out.size))
  have B0_7 := Lib.hid (B0_6.out.keep G7)
  have B1_7 := Lib.hid (B1_6.out.keep G7)
  have B2_7 : Hid (Blk (w6.alloc (.cells #[.int .i64 a, .int .i64 b] 23)) (w6.heap.size) (.int .i64 a) (.int .i64 b)) := Lib.hid (Blk.at00 _ _ _ _)
  generalize hw7 : (w6.alloc (.cells #[.int .i64 a, .int .i64 b] 23)) = w7 at *
  clear hw7 G7
  clear bs0 bx0 by0 bf0 be0 bs1 bx1 by1 bf1 be1
  obtain ⟨bs0, bx0, by0, bf0, be0⟩ := B0_7.out
  obtain ⟨bs1, bx1, by1, bf1, be1⟩ := B1_7.out
  obtain ⟨bs2, bx2, by2, bf2, be2⟩ := B2_7.out
  go_wp2_with fail
  refine (HP2.out _ (HL.out.keep T7.out)).mono ?_
  rintro e8 w8 ⟨rfl, hg⟩
  have T8 := Lib.hid (T7.out.trans (hg.mono T7.out.size))
  have B0_8 := Lib.hid (B0_7.out.below hg)
  have B1_8 := Lib.hid (B1_7.out.below hg)
  have B2_8 := Lib.hid (B2_7.out.below hg)
  clear hg
  clear bs0 bx0 by0 bf0 be0 bs1 bx1 by1 bf1 be1 bs2 bx2 by2 bf2 be2
  obtain ⟨bs0, bx0, by0, bf0, be0⟩ := B0_8.out
  obtain ⟨bs1, bx1, by1, bf1, be1⟩ := B1_8.out
  obtain ⟨bs2, bx2, by2, bf2, be2⟩ := B2_8.out
  go_wp2_with fail
  have G9 : Gr w8 (w8.alloc (.cells #[.int .i64 p, .int .i64 q] 23)) := (Gr.one _ _)
  have T9 := Lib.hid (T8.out.trans (G9.below.mono T8.out.size))
  have B0_9 := Lib.hid (B0_8.out.keep G9)
  have B1_9 := Lib.hid (B1_8.out.keep G9)
  have B2_9 := Lib.hid (B2_8.out.keep G9)
  have B3_9 : Hid (Blk (w8.alloc (.cells #[.int .i64 p, .int .i64 q] 23)) (w8.heap.size) (.int .i64 p) (.int .i64 q)) := Lib.hid (Blk.at00 _ _ _ _)
  generalize hw9 : (w8.alloc (.cells #[.int .i64 p, .int .i64 q] 23)) = w9 at *
  clear hw9 G9
  clear bs0 bx0 by0 bf0 be0 bs1 bx1 by1 bf1 be1 bs2 bx2 by2 bf2 be2
  obtain ⟨bs0, bx0, by0, bf0, be0⟩ := B0_9.out
  obtain ⟨bs1, bx1, by1, bf1, be1⟩ := B1_9.out
  obtain ⟨bs2, bx2, by2, bf2, be2⟩ := B2_9.out
  obtain ⟨bs3, bx3, by3, bf3, be3⟩ := B3_9.out
  refine (HT3.out _ (HL.out.keep T9.out)).mono ?_
  rintro e10 w10 ⟨rfl, hg⟩
  replace hg := hg.below
  have T10 := Lib.hid (T9.out.trans (hg.mono T9.out.size))
  have B0_10 := Lib.hid (B0_9.out.below hg)
  have B1_10 := Lib.hid (B1_9.out.below hg)
  have B2_10 := Lib.hid (B2_9.out.below hg)
  have B3_10 := Lib.hid (B3_9.out.below hg)
  clear hg
  clear bs0 bx0 by0 bf0 be0 bs1 bx1 by1 bf1 be1 bs2 bx2 by2 bf2 be2 bs3 bx3 by3 bf3 be3
  obtain ⟨bs0, bx0, by0, bf0, be0⟩ := B0_10.out
  obtain ⟨bs1, bx1, by1, bf1, be1⟩ := B1_10.out
  obtain ⟨bs2, bx2, by2, bf2, be2⟩ := B2_10.out
  obtain ⟨bs3, bx3, by3, bf3, be3⟩ := B3_10.out
  go_wp2_with fail
  go_ret
  exact ⟨rfl, T10.out⟩
set_option maxRecDepth 100000 in
set_option maxHeartbeats 4000000 in
theorem texts_c1 (a b p q : Int) (s t1 : ByteArray) (w : World) (hs : s.size ≤ 100) (HL : Hid (Laid w)) (HT1 : Hid (∀ W, Laid W → Calls Tryd.prog 22 #[.agg #[.int .i64 a, .int .i64 b]] W fun r w' => r = .returned (.tuple #[.string t1, .int .i64 0]) ∧ Gr W w')) (HT2 : Hid (∀ W, Laid W → Calls Tryd.prog 22 #[.agg #[.int .i64 a, .int .i64 b]] W fun r w' => r = .returned (.tuple #[.string t1, .int .i64 0]) ∧ Gr W w')) (HV : Hid (∀ W, Calls Tryd.prog 16 #[.agg #[.int .i64 a, .int .i64 b]] W fun e w' => e = .returned (.bool true) ∧ Gr W w')) (HP1 : Hid (∀ W, Laid W → Calls Tryd.prog 24 #[.string t1] W fun e w' => e = .returned (.tuple #[.agg #[.int .i64 a, .int .i64 b], .int .i64 0]) ∧ Below W.heap.size W w')) (HP2 : Hid (∀ W, Laid W → Calls Tryd.prog 24 #[.string s] W fun e w' => e = .returned (.tuple #[.agg #[.int .i64 p, .int .i64 q], .int .i64 0]) ∧ Below W.heap.size W w')) (HT3 : Hid (∀ W, Laid W → Calls Tryd.prog 22 #[.agg #[.int .i64 p, .int .i64 q]] W fun r w' => r = .returned (.tuple #[.string s, .int .i64 0]) ∧ Gr W w')) : Calls Tryd.prog 7 #[.agg #[.int .i64 a, .int .i64 b], .agg #[.int .i64 a, .int .i64 b], .string s] w (Yes w) := by
  go_enter Tryd.func7, Tryd.ntmps7
  go_wp2_with fail
  have T0 := Lib.hid (Below.refl w.heap.size w)
  have G1 : Gr w ((w.alloc (.cells #[.int .i64 a, .int .i64 b] 23)).alloc (.cells #[.int .i64 a, .int .i64 b] 23)) := ((Gr.one _ _).alloc _)
  have T1 := Lib.hid (T0.out.trans (G1.below.mono T0.out.size))
  have B0_1 : Hid (Blk ((w.alloc (.cells #[.int .i64 a, .int .i64 b] 23)).alloc (.cells #[.int .i64 a, .int .i64 b] 23)) (w.heap.size) (.int .i64 a) (.int .i64 b)) := Lib.hid (Blk.at01 _ _ _ _ _)
  have B1_1 : Hid (Blk ((w.alloc (.cells #[.int .i64 a, .int .i64 b] 23)).alloc (.cells #[.int .i64 a, .int .i64 b] 23)) (w.heap.size + 1) (.int .i64 a) (.int .i64 b)) := Lib.hid (Blk.at10 _ _ _ _ _)
  generalize hw1 : ((w.alloc (.cells #[.int .i64 a, .int .i64 b] 23)).alloc (.cells #[.int .i64 a, .int .i64 b] 23)) = w1 at *
  clear hw1 G1
  obtain ⟨bs0, bx0, by0, bf0, be0⟩ := B0_1.out
  obtain ⟨bs1, bx1, by1, bf1, be1⟩ := B1_1.out
  refine (head_any _ (HL.out.keep T1.out)).mono ?_
  rintro e2 w2 ⟨rfl, hg⟩
  have T2 := Lib.hid (T1.out.trans (hg.mono T1.out.size))
  have B0_2 := Lib.hid (B0_1.out.below hg)
  have B1_2 := Lib.hid (B1_1.out.below hg)
  clear hg
  clear bs0 bx0 by0 bf0 be0 bs1 bx1 by1 bf1 be1
  obtain ⟨bs0, bx0, by0, bf0, be0⟩ := B0_2.out
  obtain ⟨bs1, bx1, by1, bf1, be1⟩ := B1_2.out
  go_wp2_with fail
  refine (HT1.out _ (HL.out.keep T2.out)).mono ?_
  rintro e3 w3 ⟨rfl, hg⟩
  replace hg := hg.below
  have T3 := Lib.hid (T2.out.trans (hg.mono T2.out.size))
  have B0_3 := Lib.hid (B0_2.out.below hg)
  have B1_3 := Lib.hid (B1_2.out.below hg)
  clear hg
  clear bs0 bx0 by0 bf0 be0 bs1 bx1 by1 bf1 be1
  obtain ⟨bs0, bx0, by0, bf0, be0⟩ := B0_3.out
  obtain ⟨bs1, bx1, by1, bf1, be1⟩ := B1_3.out
  go_wp2_with fail
  refine (HT2.out _ (HL.out.keep T3.out)).mono ?_
  rintro e4 w4 ⟨rfl, hg⟩
  replace hg := hg.below
  have T4 := Lib.hid (T3.out.trans (hg.mono T3.out.size))
  have B0_4 := Lib.hid (B0_3.out.below hg)
  have B1_4 := Lib.hid (B1_3.out.below hg)
  clear hg
  clear bs0 bx0 by0 bf0 be0 bs1 bx1 by1 bf1 be1
  obtain ⟨bs0, bx0, by0, bf0, be0⟩ := B0_4.out
  obtain ⟨bs1, bx1, by1, bf1, be1⟩ := B1_4.out
  go_wp2_with fail
  refine (HV.out _).mono ?_
  rintro e5 w5 ⟨rfl, hg⟩
  replace hg := hg.below
  have T5 := Lib.hid (T4.out.trans (hg.mono T4.out.size))
  have B0_5 := Lib.hid (B0_4.out.below hg)
  have B1_5 := Lib.hid (B1_4.out.below hg)
  clear hg
  clear bs0 bx0 by0 bf0 be0 bs1 bx1 by1 bf1 be1
  obtain ⟨bs0, bx0, by0, bf0, be0⟩ := B0_5.out
  obtain ⟨bs1, bx1, by1, bf1, be1⟩ := B1_5.out
  go_wp2_with fail
  refine (HP1.out _ (HL.out.keep T5.out)).mono ?_
  rintro e6 w6 ⟨rfl, hg⟩
  have T6 := Lib.hid (T5.out.trans (hg.mono T5.out.size))
  have B0_6 := Lib.hid (B0_5.out.below hg)
  have B1_6 := Lib.hid (B1_5.out.below hg)
  clear hg
  clear bs0 bx0 by0 bf0 be0 bs1 bx1 by1 bf1 be1
  obtain ⟨bs0, bx0, by0, bf0, be0⟩ := B0_6.out
  obtain ⟨bs1, bx1, by1, bf1, be1⟩ := B1_6.out
  go_wp2_with fail
  have G7 : Gr w6 (w6.alloc (.cells #[.int .i64 a, .int .i64 b] 23)) := (Gr.one _ _)
  have T7 := Lib.hid (T6.out.trans (G7.below.mono T6.out.size))
  have B0_7 := Lib.hid (B0_6.out.keep G7)
  have B1_7 := Lib.hid (B1_6.out.keep G7)
  have B2_7 : Hid (Blk (w6.alloc (.cells #[.int .i64 a, .int .i64 b] 23)) (w6.heap.size) (.int .i64 a) (.int .i64 b)) := Lib.hid (Blk.at00 _ _ _ _)
  generalize hw7 : (w6.alloc (.cells #[.int .i64 a, .int .i64 b] 23)) = w7 at *
  clear hw7 G7
  clear bs0 bx0 by0 bf0 be0 bs1 bx1 by1 bf1 be1
  obtain ⟨bs0, bx0, by0, bf0, be0⟩ := B0_7.out
  obtain ⟨bs1, bx1, by1, bf1, be1⟩ := B1_7.out
  obtain ⟨bs2, bx2, by2, bf2, be2⟩ := B2_7.out
  go_wp2_with fail
  refine (HP2.out _ (HL.out.keep T7.out)).mono ?_
  rintro e8 w8 ⟨rfl, hg⟩
  have T8 := Lib.hid (T7.out.trans (hg.mono T7.out.size))
  have B0_8 := Lib.hid (B0_7.out.below hg)
  have B1_8 := Lib.hid (B1_7.out.below hg)
  have B2_8 := Lib.hid (B2_7.out.below hg)
  clear hg
  clear bs0 bx0 by0 bf0 be0 bs1 bx1 by1 bf1 be1 bs2 bx2 by2 bf2 be2
  obtain ⟨bs0, bx0, by0, bf0, be0⟩ := B0_8.out
  obtain ⟨bs1, bx1, by1, bf1, be1⟩ := B1_8.out
  obtain ⟨bs2, bx2, by2, bf2, be2⟩ := B2_8.out
  go_wp2_with fail
  have G9 : Gr w8 (w8.alloc (.cells #[.int .i64 p, .int .i64 q] 23)) := (Gr.one _ _)
  have T9 := Lib.hid (T8.out.trans (G9.below.mono T8.out.size))
  have B0_9 := Lib.hid (B0_8.out.keep G9)
  have B1_9 := Lib.hid (B1_8.out.keep G9)
  have B2_9 := Lib.hid (B2_8.out.keep G9)
  have B3_9 : Hid (Blk (w8.alloc (.cells #[.int .i64 p, .int .i64 q] 23)) (w8.heap.size) (.int .i64 p) (.int .i64 q)) := Lib.hid (Blk.at00 _ _ _ _)
  generalize hw9 : (w8.alloc (.cells #[.int .i64 p, .int .i64 q] 23)) = w9 at *
  clear hw9 G9
  clear bs0 bx0 by0 bf0 be0 bs1 bx1 by1 bf1 be1 bs2 bx2 by2 bf2 be2
  obtain ⟨bs0, bx0, by0, bf0, be0⟩ := B0_9.out
  obtain ⟨bs1, bx1, by1, bf1, be1⟩ := B1_9.out
  obtain ⟨bs2, bx2, by2, bf2, be2⟩ := B2_9.out
  obtain ⟨bs3, bx3, by3, bf3, be3⟩ := B3_9.out
  refine (HT3.out _ (HL.out.keep T9.out)).mono ?_
  rintro e10 w10 ⟨rfl, hg⟩
  replace hg := hg.below
  have T10 := Lib.hid (T9.out.trans (hg.mono T9.out.size))
  have B0_10 := Lib.hid (B0_9.out.below hg)
  have B1_10 := Lib.hid (B1_9.out.below hg)
  have B2_10 := Lib.hid (B2_9.out.below hg)
  have B3_10 := Lib.hid (B3_9.out.below hg)
  clear hg
  clear bs0 bx0 by0 bf0 be0 bs1 bx1 by1 bf1 be1 bs2 bx2 by2 bf2 be2 bs3 bx3 by3 bf3 be3
  obtain ⟨bs0, bx0, by0, bf0, be0⟩ := B0_10.out
  obtain ⟨bs1, bx1, by1, bf1, be1⟩ := B1_10.out
  obtain ⟨bs2, bx2, by2, bf2, be2⟩ := B2_10.out
  obtain ⟨bs3, bx3, by3, bf3, be3⟩ := B3_10.out
  go_wp2_with fail
  go_ret
  exact ⟨rfl, T10.out⟩
set_option maxRecDepth 100000 in
set_option maxHeartbeats 4000000 in
theorem texts_d1 (a b c d p q : Int) (s t1 t2 : ByteArray) (w : World) (hs : s.size ≤ 100) (HL : Hid (Laid w)) (hne : ¬ (a = c ∧ b = d)) (ht : (t1.toList == t2.toList) = false) (HT1 : Hid (∀ W, Laid W → Calls Tryd.prog 22 #[.agg #[.int .i64 a, .int .i64 b]] W fun r w' => r = .returned (.tuple #[.string t1, .int .i64 0]) ∧ Gr W w')) (HT2 : Hid (∀ W, Laid W → Calls Tryd.prog 22 #[.agg #[.int .i64 c, .int .i64 d]] W fun r w' => r = .returned (.tuple #[.string t2, .int .i64 0]) ∧ Gr W w')) (HV : Hid (∀ W, Calls Tryd.prog 16 #[.agg #[.int .i64 a, .int .i64 b]] W fun e w' => e = .returned (.bool true) ∧ Gr W w')) (HP1 : Hid (∀ W, Laid W → Calls Tryd.prog 24 #[.string t1] W fun e w' => e = .returned (.tuple #[.agg #[.int .i64 a, .int .i64 b], .int .i64 0]) ∧ Below W.heap.size W w')) (HP2 : Hid (∀ W, Laid W → Calls Tryd.prog 24 #[.string s] W fun e w' => e = .returned (.tuple #[.agg #[.int .i64 p, .int .i64 q], .int .i64 0]) ∧ Below W.heap.size W w')) (HT3 : Hid (∀ W, Laid W → Calls Tryd.prog 22 #[.agg #[.int .i64 p, .int .i64 q]] W fun r w' => r = .returned (.tuple #[.string s, .int .i64 0]) ∧ Gr W w')) : Calls Tryd.prog 7 #[.agg #[.int .i64 a, .int .i64 b], .agg #[.int .i64 c, .int .i64 d], .string s] w (Yes w) := by
  rcases ne_bools hne with b1 | ⟨b1, b2⟩
  all_goals
    clear hne
    go_enter Tryd.func7, Tryd.ntmps7
    go_wp2_with fail
    have T0 := Lib.hid (Below.refl w.heap.size w)
    have G1 : Gr w ((w.alloc (.cells #[.int .i64 a, .int .i64 b] 23)).alloc (.cells #[.int .i64 c, .int .i64 d] 23)) := ((Gr.one _ _).alloc _)
    have T1 := Lib.hid (T0.out.trans (G1.below.mono T0.out.size))
    have B0_1 : Hid (Blk ((w.alloc (.cells #[.int .i64 a, .int .i64 b] 23)).alloc (.cells #[.int .i64 c, .int .i64 d] 23)) (w.heap.size) (.int .i64 a) (.int .i64 b)) := Lib.hid (Blk.at01 _ _ _ _ _)
    have B1_1 : Hid (Blk ((w.alloc (.cells #[.int .i64 a, .int .i64 b] 23)).alloc (.cells #[.int .i64 c, .int .i64 d] 23)) (w.heap.size + 1) (.int .i64 c) (.int .i64 d)) := Lib.hid (Blk.at10 _ _ _ _ _)
    generalize hw1 : ((w.alloc (.cells #[.int .i64 a, .int .i64 b] 23)).alloc (.cells #[.int .i64 c, .int .i64 d] 23)) = w1 at *
    clear hw1 G1
    obtain ⟨bs0, bx0, by0, bf0, be0⟩ := B0_1.out
    obtain ⟨bs1, bx1, by1, bf1, be1⟩ := B1_1.out
    refine (head_any _ (HL.out.keep T1.out)).mono ?_
    rintro e2 w2 ⟨rfl, hg⟩
    have T2 := Lib.hid (T1.out.trans (hg.mono T1.out.size))
    have B0_2 := Lib.hid (B0_1.out.below hg)
    have B1_2 := Lib.hid (B1_1.out.below hg)
    clear hg
    clear bs0 bx0 by0 bf0 be0 bs1 bx1 by1 bf1 be1
    obtain ⟨bs0, bx0, by0, bf0, be0⟩ := B0_2.out
    obtain ⟨bs1, bx1, by1, bf1, be1⟩ := B1_2.out
    go_wp2_with fail
    refine (HT1.out _ (HL.out.keep T2.out)).mono ?_
    rintro e3 w3 ⟨rfl, hg⟩
    replace hg := hg.below
    have T3 := Lib.hid (T2.out.trans (hg.mono T2.out.size))
    have B0_3 := Lib.hid (B0_2.out.below hg)
    have B1_3 := Lib.hid (B1_2.out.below hg)
    clear hg
    clear bs0 bx0 by0 bf0 be0 bs1 bx1 by1 bf1 be1
    obtain ⟨bs0, bx0, by0, bf0, be0⟩ := B0_3.out
    obtain ⟨bs1, bx1, by1, bf1, be1⟩ := B1_3.out
    go_wp2_with fail
    refine (HT2.out _ (HL.out.keep T3.out)).mono ?_
    rintro e4 w4 ⟨rfl, hg⟩
    replace hg := hg.below
    have T4 := Lib.hid (T3.out.trans (hg.mono T3.out.size))
    have B0_4 := Lib.hid (B0_3.out.below hg)
    have B1_4 := Lib.hid (B1_3.out.below hg)
    clear hg
    clear bs0 bx0 by0 bf0 be0 bs1 bx1 by1 bf1 be1
    obtain ⟨bs0, bx0, by0, bf0, be0⟩ := B0_4.out
    obtain ⟨bs1, bx1, by1, bf1, be1⟩ := B1_4.out
    go_wp2_with fail
    refine (HV.out _).mono ?_
    rintro e5 w5 ⟨rfl, hg⟩
    replace hg := hg.below
    have T5 := Lib.hid (T4.out.trans (hg.mono T4.out.size))
    have B0_5 := Lib.hid (B0_4.out.below hg)
    have B1_5 := Lib.hid (B1_4.out.below hg)
    clear hg
    clear bs0 bx0 by0 bf0 be0 bs1 bx1 by1 bf1 be1
    obtain ⟨bs0, bx0, by0, bf0, be0⟩ := B0_5.out
    obtain ⟨bs1, bx1, by1, bf1, be1⟩ := B1_5.out
    go_wp2_with fail
    refine (HP1.out _ (HL.out.keep T5.out)).mono ?_
    rintro e6 w6 ⟨rfl, hg⟩
    have T6 := Lib.hid (T5.out.trans (hg.mono T5.out.size))
    have B0_6 := Lib.hid (B0_5.out.below hg)
    have B1_6 := Lib.hid (B1_5.out.below hg)
    clear hg
    clear bs0 bx0 by0 bf0 be0 bs1 bx1 by1 bf1 be1
    obtain ⟨bs0, bx0, by0, bf0, be0⟩ := B0_6.out
    obtain ⟨bs1, bx1, by1, bf1, be1⟩ := B1_6.out
    go_wp2_with fail
    have G7 : Gr w6 (w6.alloc (.cells #[.int .i64 a, .int .i64 b] 23)) := (Gr.one _ _)
    have T7 := Lib.hid (T6.out.trans (G7.below.mono T6.out.size))
    have B0_7 := Lib.hid (B0_6.out.keep G7)
    have B1_7 := Lib.hid (B1_6.out.keep G7)
    have B2_7 : Hid (Blk (w6.alloc (.cells #[.int .i64 a, .int .i64 b] 23)) (w6.heap.size) (.int .i64 a) (.int .i64 b)) := Lib.hid (Blk.at00 _ _ _ _)
    generalize hw7 : (w6.alloc (.cells #[.int .i64 a, .int .i64 b] 23)) = w7 at *
    clear hw7 G7
    clear bs0 bx0 by0 bf0 be0 bs1 bx1 by1 bf1 be1
    obtain ⟨bs0, bx0, by0, bf0, be0⟩ := B0_7.out
    obtain ⟨bs1, bx1, by1, bf1, be1⟩ := B1_7.out
    obtain ⟨bs2, bx2, by2, bf2, be2⟩ := B2_7.out
    go_wp2_with fail
    refine (HP2.out _ (HL.out.keep T7.out)).mono ?_
    rintro e8 w8 ⟨rfl, hg⟩
    have T8 := Lib.hid (T7.out.trans (hg.mono T7.out.size))
    have B0_8 := Lib.hid (B0_7.out.below hg)
    have B1_8 := Lib.hid (B1_7.out.below hg)
    have B2_8 := Lib.hid (B2_7.out.below hg)
    clear hg
    clear bs0 bx0 by0 bf0 be0 bs1 bx1 by1 bf1 be1 bs2 bx2 by2 bf2 be2
    obtain ⟨bs0, bx0, by0, bf0, be0⟩ := B0_8.out
    obtain ⟨bs1, bx1, by1, bf1, be1⟩ := B1_8.out
    obtain ⟨bs2, bx2, by2, bf2, be2⟩ := B2_8.out
    go_wp2_with fail
    have G9 : Gr w8 (w8.alloc (.cells #[.int .i64 p, .int .i64 q] 23)) := (Gr.one _ _)
    have T9 := Lib.hid (T8.out.trans (G9.below.mono T8.out.size))
    have B0_9 := Lib.hid (B0_8.out.keep G9)
    have B1_9 := Lib.hid (B1_8.out.keep G9)
    have B2_9 := Lib.hid (B2_8.out.keep G9)
    have B3_9 : Hid (Blk (w8.alloc (.cells #[.int .i64 p, .int .i64 q] 23)) (w8.heap.size) (.int .i64 p) (.int .i64 q)) := Lib.hid (Blk.at00 _ _ _ _)
    generalize hw9 : (w8.alloc (.cells #[.int .i64 p, .int .i64 q] 23)) = w9 at *
    clear hw9 G9
    clear bs0 bx0 by0 bf0 be0 bs1 bx1 by1 bf1 be1 bs2 bx2 by2 bf2 be2
    obtain ⟨bs0, bx0, by0, bf0, be0⟩ := B0_9.out
    obtain ⟨bs1, bx1, by1, bf1, be1⟩ := B1_9.out
    obtain ⟨bs2, bx2, by2, bf2, be2⟩ := B2_9.out
    obtain ⟨bs3, bx3, by3, bf3, be3⟩ := B3_9.out
    refine (HT3.out _ (HL.out.keep T9.out)).mono ?_
    rintro e10 w10 ⟨rfl, hg⟩
    replace hg := hg.below
    have T10 := Lib.hid (T9.out.trans (hg.mono T9.out.size))
    have B0_10 := Lib.hid (B0_9.out.below hg)
    have B1_10 := Lib.hid (B1_9.out.below hg)
    have B2_10 := Lib.hid (B2_9.out.below hg)
    have B3_10 := Lib.hid (B3_9.out.below hg)
    clear hg
    clear bs0 bx0 by0 bf0 be0 bs1 bx1 by1 bf1 be1 bs2 bx2 by2 bf2 be2 bs3 bx3 by3 bf3 be3
    obtain ⟨bs0, bx0, by0, bf0, be0⟩ := B0_10.out
    obtain ⟨bs1, bx1, by1, bf1, be1⟩ := B1_10.out
    obtain ⟨bs2, bx2, by2, bf2, be2⟩ := B2_10.out
    obtain ⟨bs3, bx3, by3, bf3, be3⟩ := B3_10.out
    go_wp2_with fail
    go_ret
    exact ⟨rfl, T10.out⟩
set_option maxHeartbeats 1000000 in
theorem texts_long (a b c d : Int) (s : ByteArray) (w : World) (hs : 100 < s.size) (HL : Hid (Laid w)) : Calls Tryd.prog 7 #[.agg #[.int .i64 a, .int .i64 b], .agg #[.int .i64 c, .int .i64 d], .string s] w (Yes w) := by
  go_enter Tryd.func7, Tryd.ntmps7
  go_wp2_with fail
  have T0 := Lib.hid (Below.refl w.heap.size w)
  have G1 : Gr w ((w.alloc (.cells #[.int .i64 a, .int .i64 b] 23)).alloc (.cells #[.int .i64 c, .int .i64 d] 23)) := ((Gr.one _ _).alloc _)
  have T1 := Lib.hid (T0.out.trans (G1.below.mono T0.out.size))
  have B0_1 : Hid (Blk ((w.alloc (.cells #[.int .i64 a, .int .i64 b] 23)).alloc (.cells #[.int .i64 c, .int .i64 d] 23)) (w.heap.size) (.int .i64 a) (.int .i64 b)) := Lib.hid (Blk.at01 _ _ _ _ _)
  have B1_1 : Hid (Blk ((w.alloc (.cells #[.int .i64 a, .int .i64 b] 23)).alloc (.cells #[.int .i64 c, .int .i64 d] 23)) (w.heap.size + 1) (.int .i64 c) (.int .i64 d)) := Lib.hid (Blk.at10 _ _ _ _ _)
  generalize hw1 : ((w.alloc (.cells #[.int .i64 a, .int .i64 b] 23)).alloc (.cells #[.int .i64 c, .int .i64 d] 23)) = w1 at *
  clear hw1 G1
  obtain ⟨bs0, bx0, by0, bf0, be0⟩ := B0_1.out
  obtain ⟨bs1, bx1, by1, bf1, be1⟩ := B1_1.out
  refine (head_any _ (HL.out.keep T1.out)).mono ?_
  rintro e2 w2 ⟨rfl, hg⟩
  have T2 := Lib.hid (T1.out.trans (hg.mono T1.out.size))
  have B0_2 := Lib.hid (B0_1.out.below hg)
  have B1_2 := Lib.hid (B1_1.out.below hg)
  clear hg
  clear bs0 bx0 by0 bf0 be0 bs1 bx1 by1 bf1 be1
  obtain ⟨bs0, bx0, by0, bf0, be0⟩ := B0_2.out
  obtain ⟨bs1, bx1, by1, bf1, be1⟩ := B1_2.out
  go_wp2_with fail
  go_ret
  exact ⟨rfl, T2.out⟩
theorem texts_walk (a b c d : Int) (s : ByteArray) (w : World) (hL : Laid w) (h0 : -9223372036854775808 ≤ a) (h1 : a ≤ 9223372036854775807) (h2 : -9223372036854775808 ≤ b) (h3 : b ≤ 9223372036854775807) (h4 : -9223372036854775808 ≤ c) (h5 : c ≤ 9223372036854775807) (h6 : -9223372036854775808 ≤ d) (h7 : d ≤ 9223372036854775807) : Calls Tryd.prog 7 #[.agg #[.int .i64 a, .int .i64 b], .agg #[.int .i64 c, .int .i64 d], .string s] w (Yes w) := by
  by_cases hs : s.size ≤ 100
  · by_cases hx : ∃ p q, vld p q = true ∧ txt p q = s.data.toList
    · obtain ⟨p, q, v5, ht5⟩ := hx
      cases v1 : vld a b
      · cases v2 : vld c d
        · exact texts_a1 a b c d p q _ s _ w hs (Lib.hid hL) (Lib.hid (fun W _ => text_no a b W v1 h0 h1 h2 h3)) (Lib.hid (fun W _ => text_no c d W v2 h4 h5 h6 h7)) (Lib.hid (fun W => valid_at v1 W h0 h1 h2 h3)) (Lib.hid (fun W hL => parse_yes p q s W hL hs v5 ht5)) (Lib.hid (fun W hL => txt_at W hL v5 (by rw [ht5])))
        · exact texts_a1 a b c d p q _ s _ w hs (Lib.hid hL) (Lib.hid (fun W _ => text_no a b W v1 h0 h1 h2 h3)) (Lib.hid (fun W hL => text_yes c d W hL v2)) (Lib.hid (fun W => valid_at v1 W h0 h1 h2 h3)) (Lib.hid (fun W hL => parse_yes p q s W hL hs v5 ht5)) (Lib.hid (fun W hL => txt_at W hL v5 (by rw [ht5])))
      · have l1 := txt_len a b v1
        have HP := Lib.hid (fun W hL => parse_yes a b ⟨(txt a b).toArray⟩ W hL (by show (txt a b).toArray.size ≤ 100; simp; omega) v1 rfl)
        cases v2 : vld c d
        · exact texts_b1 a b c d p q s _ w hs (Lib.hid hL) (Lib.hid (fun W hL => text_yes a b W hL v1)) (Lib.hid (fun W _ => text_no c d W v2 h4 h5 h6 h7)) (Lib.hid (fun W => valid_at v1 W h0 h1 h2 h3)) HP (Lib.hid (fun W hL => parse_yes p q s W hL hs v5 ht5)) (Lib.hid (fun W hL => txt_at W hL v5 (by rw [ht5])))
        · by_cases e : a = c ∧ b = d
          · obtain ⟨rfl, rfl⟩ := e
            exact texts_c1 a b p q s _ w hs (Lib.hid hL) (Lib.hid (fun W hL => text_yes a b W hL v1)) (Lib.hid (fun W hL => text_yes a b W hL v1)) (Lib.hid (fun W => valid_at v1 W h0 h1 h2 h3)) HP (Lib.hid (fun W hL => parse_yes p q s W hL hs v5 ht5)) (Lib.hid (fun W hL => txt_at W hL v5 (by rw [ht5])))
          · exact texts_d1 a b c d p q s _ _ w hs (Lib.hid hL) e (by rw [ByteArray.toList_eq, ByteArray.toList_eq, beq_eq_false_iff_ne]; exact fun x => e (txt_inj a b c d v1 v2 x)) (Lib.hid (fun W hL => text_yes a b W hL v1)) (Lib.hid (fun W hL => text_yes c d W hL v2)) (Lib.hid (fun W => valid_at v1 W h0 h1 h2 h3)) HP (Lib.hid (fun W hL => parse_yes p q s W hL hs v5 ht5)) (Lib.hid (fun W hL => txt_at W hL v5 (by rw [ht5])))
    · have hno : ∀ p q, vld p q = true → txt p q ≠ s.data.toList := fun p q x y => hx ⟨p, q, x, y⟩
      cases v1 : vld a b
      · cases v2 : vld c d
        · exact texts_a0 a b c d _ s _ w hs (Lib.hid hL) (Lib.hid (fun W _ => text_no a b W v1 h0 h1 h2 h3)) (Lib.hid (fun W _ => text_no c d W v2 h4 h5 h6 h7)) (Lib.hid (fun W => valid_at v1 W h0 h1 h2 h3)) (Lib.hid (fun W hL => parse_no s W hL hs hno))
        · exact texts_a0 a b c d _ s _ w hs (Lib.hid hL) (Lib.hid (fun W _ => text_no a b W v1 h0 h1 h2 h3)) (Lib.hid (fun W hL => text_yes c d W hL v2)) (Lib.hid (fun W => valid_at v1 W h0 h1 h2 h3)) (Lib.hid (fun W hL => parse_no s W hL hs hno))
      · have l1 := txt_len a b v1
        have HP := Lib.hid (fun W hL => parse_yes a b ⟨(txt a b).toArray⟩ W hL (by show (txt a b).toArray.size ≤ 100; simp; omega) v1 rfl)
        cases v2 : vld c d
        · exact texts_b0 a b c d s _ w hs (Lib.hid hL) (Lib.hid (fun W hL => text_yes a b W hL v1)) (Lib.hid (fun W _ => text_no c d W v2 h4 h5 h6 h7)) (Lib.hid (fun W => valid_at v1 W h0 h1 h2 h3)) HP (Lib.hid (fun W hL => parse_no s W hL hs hno))
        · by_cases e : a = c ∧ b = d
          · obtain ⟨rfl, rfl⟩ := e
            exact texts_c0 a b s _ w hs (Lib.hid hL) (Lib.hid (fun W hL => text_yes a b W hL v1)) (Lib.hid (fun W hL => text_yes a b W hL v1)) (Lib.hid (fun W => valid_at v1 W h0 h1 h2 h3)) HP (Lib.hid (fun W hL => parse_no s W hL hs hno))
          · exact texts_d0 a b c d s _ _ w hs (Lib.hid hL) e (by rw [ByteArray.toList_eq, ByteArray.toList_eq, beq_eq_false_iff_ne]; exact fun x => e (txt_inj a b c d v1 v2 x)) (Lib.hid (fun W hL => text_yes a b W hL v1)) (Lib.hid (fun W hL => text_yes c d W hL v2)) (Lib.hid (fun W => valid_at v1 W h0 h1 h2 h3)) HP (Lib.hid (fun W hL => parse_no s W hL hs hno))
  · exact texts_long a b c d s w (by omega) (Lib.hid hL)
end Go.Proofs.YtdmddfhjfkdlnaaDoor
