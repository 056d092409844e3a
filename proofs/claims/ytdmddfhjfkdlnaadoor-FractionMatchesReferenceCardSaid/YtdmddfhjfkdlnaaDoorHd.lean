/- The contract of head, the chapter's examples. Under the condition that the tables and the library's variables lie in memory as the program lays them. -/
import Derived.Test.YtdmddfhjfkdlnaaDoorN
import Derived.Deep.RegionHeld3
namespace Go.Proofs.YtdmddfhjfkdlnaaDoor
open Go.RowKit

theorem six_four : ∀ a b : Int, vld a b = true → txt a b ≠ (⟨#[54, 47, 52]⟩ : ByteArray).data.toList := by
  intro a b hv ht
  obtain ⟨r1, r2⟩ := txt_read a b hv
  rw [ht] at r1 r2
  have e1 : Lib.atoiAll (Lib.cut (⟨#[54, 47, 52]⟩ : ByteArray).data.toList [47]).1 = .ok 6 := by decide +kernel
  have e2 : Lib.atoiAll (dtx (⟨#[54, 47, 52]⟩ : ByteArray).data.toList) = .ok 4 := by decide +kernel
  rw [e1] at r1
  rw [e2] at r2
  obtain rfl := Lib.NumEnd.ok.inj r1
  obtain rfl := Lib.NumEnd.ok.inj r2
  exact absurd hv (by decide +kernel)
set_option maxRecDepth 100000 in
set_option maxHeartbeats 4000000 in
theorem head_any (w : World) (hL : Laid w) : Calls Tryd.prog 9 #[] w fun e w' => e = .returned (.bool true) ∧ Below w.heap.size w w' := by
  have HL := Lib.hid hL
  clear hL
  go_enter Tryd.func9, Tryd.ntmps9
  go_wp2_with fail
  have T0 := Lib.hid (Below.refl w.heap.size w)
  refine (of_at (x := -3) (y := 2) (e := 0) _ (by decide) (by decide) (by decide) (by decide) (by decide) (by decide +kernel) (by decide +kernel) (by decide +kernel)).mono ?_
  rintro e1 w1 ⟨rfl, hg⟩
  have T1 := Lib.hid (T0.out.trans (hg.mono T0.out.size))
  clear hg
  go_wp2_with fail
  have G2 : Gr w1 (w1.alloc (.cells #[.int .i64 (-3), .int .i64 2] 23)) := (Gr.one _ _)
  have T2 := Lib.hid (T1.out.trans (G2.below.mono T1.out.size))
  have B0_2 : Hid (Blk (w1.alloc (.cells #[.int .i64 (-3), .int .i64 2] 23)) (w1.heap.size) (.int .i64 (-3)) (.int .i64 2)) := Lib.hid (Blk.at00 _ _ _ _)
  generalize hw2 : (w1.alloc (.cells #[.int .i64 (-3), .int .i64 2] 23)) = w2 at *
  clear hw2 G2
  obtain ⟨bs0, bx0, by0, bf0, be0⟩ := B0_2.out
  refine (of_any _ _ _).mono ?_
  rintro e3 w3 ⟨rfl, hg⟩
  replace hg := hg.below
  have T3 := Lib.hid (T2.out.trans (hg.mono T2.out.size))
  have B0_3 := Lib.hid (B0_2.out.below hg)
  clear hg
  clear bs0 bx0 by0 bf0 be0
  obtain ⟨bs0, bx0, by0, bf0, be0⟩ := B0_3.out
  go_wp2_with fail
  refine (of_any _ _ _).mono ?_
  rintro e4 w4 ⟨rfl, hg⟩
  replace hg := hg.below
  have T4 := Lib.hid (T3.out.trans (hg.mono T3.out.size))
  have B0_4 := Lib.hid (B0_3.out.below hg)
  clear hg
  clear bs0 bx0 by0 bf0 be0
  obtain ⟨bs0, bx0, by0, bf0, be0⟩ := B0_4.out
  go_wp2_with fail
  refine (add_at (x := 1) (y := 2) (e := 0) _ (by decide +kernel) (by decide +kernel) (by decide +kernel) (by decide +kernel) (by decide +kernel)).mono ?_
  rintro e5 w5 ⟨rfl, hg⟩
  have T5 := Lib.hid (T4.out.trans (hg.mono T4.out.size))
  have B0_5 := Lib.hid (B0_4.out.below hg)
  clear hg
  clear bs0 bx0 by0 bf0 be0
  obtain ⟨bs0, bx0, by0, bf0, be0⟩ := B0_5.out
  go_wp2_with fail
  have G6 : Gr w5 (w5.alloc (.cells #[.int .i64 1, .int .i64 2] 23)) := (Gr.one _ _)
  have T6 := Lib.hid (T5.out.trans (G6.below.mono T5.out.size))
  have B0_6 := Lib.hid (B0_5.out.keep G6)
  have B1_6 : Hid (Blk (w5.alloc (.cells #[.int .i64 1, .int .i64 2] 23)) (w5.heap.size) (.int .i64 1) (.int .i64 2)) := Lib.hid (Blk.at00 _ _ _ _)
  generalize hw6 : (w5.alloc (.cells #[.int .i64 1, .int .i64 2] 23)) = w6 at *
  clear hw6 G6
  clear bs0 bx0 by0 bf0 be0
  obtain ⟨bs0, bx0, by0, bf0, be0⟩ := B0_6.out
  obtain ⟨bs1, bx1, by1, bf1, be1⟩ := B1_6.out
  refine (of_any _ _ _).mono ?_
  rintro e7 w7 ⟨rfl, hg⟩
  replace hg := hg.below
  have T7 := Lib.hid (T6.out.trans (hg.mono T6.out.size))
  have B0_7 := Lib.hid (B0_6.out.below hg)
  have B1_7 := Lib.hid (B1_6.out.below hg)
  clear hg
  clear bs0 bx0 by0 bf0 be0 bs1 bx1 by1 bf1 be1
  obtain ⟨bs0, bx0, by0, bf0, be0⟩ := B0_7.out
  obtain ⟨bs1, bx1, by1, bf1, be1⟩ := B1_7.out
  go_wp2_with fail
  refine (of_any _ _ _).mono ?_
  rintro e8 w8 ⟨rfl, hg⟩
  replace hg := hg.below
  have T8 := Lib.hid (T7.out.trans (hg.mono T7.out.size))
  have B0_8 := Lib.hid (B0_7.out.below hg)
  have B1_8 := Lib.hid (B1_7.out.below hg)
  clear hg
  clear bs0 bx0 by0 bf0 be0 bs1 bx1 by1 bf1 be1
  obtain ⟨bs0, bx0, by0, bf0, be0⟩ := B0_8.out
  obtain ⟨bs1, bx1, by1, bf1, be1⟩ := B1_8.out
  go_wp2_with fail
  refine (mul_at (x := 0) (y := 0) (e := 9) _ (by decide +kernel) (by decide +kernel) (by decide +kernel) (by decide +kernel) (by decide +kernel)).mono ?_
  rintro e9 w9 ⟨rfl, hg⟩
  have T9 := Lib.hid (T8.out.trans (hg.mono T8.out.size))
  have B0_9 := Lib.hid (B0_8.out.below hg)
  have B1_9 := Lib.hid (B1_8.out.below hg)
  clear hg
  clear bs0 bx0 by0 bf0 be0 bs1 bx1 by1 bf1 be1
  obtain ⟨bs0, bx0, by0, bf0, be0⟩ := B0_9.out
  obtain ⟨bs1, bx1, by1, bf1, be1⟩ := B1_9.out
  go_wp2_with fail
  have G10 : Gr w9 (w9.alloc (.cells #[.int .i64 0, .int .i64 0] 23)) := (Gr.one _ _)
  have T10 := Lib.hid (T9.out.trans (G10.below.mono T9.out.size))
  have B0_10 := Lib.hid (B0_9.out.keep G10)
  have B1_10 := Lib.hid (B1_9.out.keep G10)
  have B2_10 : Hid (Blk (w9.alloc (.cells #[.int .i64 0, .int .i64 0] 23)) (w9.heap.size) (.int .i64 0) (.int .i64 0)) := Lib.hid (Blk.at00 _ _ _ _)
  generalize hw10 : (w9.alloc (.cells #[.int .i64 0, .int .i64 0] 23)) = w10 at *
  clear hw10 G10
  clear bs0 bx0 by0 bf0 be0 bs1 bx1 by1 bf1 be1
  obtain ⟨bs0, bx0, by0, bf0, be0⟩ := B0_10.out
  obtain ⟨bs1, bx1, by1, bf1, be1⟩ := B1_10.out
  obtain ⟨bs2, bx2, by2, bf2, be2⟩ := B2_10.out
  refine (of_any _ _ _).mono ?_
  rintro e11 w11 ⟨rfl, hg⟩
  replace hg := hg.below
  have T11 := Lib.hid (T10.out.trans (hg.mono T10.out.size))
  have B0_11 := Lib.hid (B0_10.out.below hg)
  have B1_11 := Lib.hid (B1_10.out.below hg)
  have B2_11 := Lib.hid (B2_10.out.below hg)
  clear hg
  clear bs0 bx0 by0 bf0 be0 bs1 bx1 by1 bf1 be1 bs2 bx2 by2 bf2 be2
  obtain ⟨bs0, bx0, by0, bf0, be0⟩ := B0_11.out
  obtain ⟨bs1, bx1, by1, bf1, be1⟩ := B1_11.out
  obtain ⟨bs2, bx2, by2, bf2, be2⟩ := B2_11.out
  go_wp2_with fail
  refine (of_any _ _ _).mono ?_
  rintro e12 w12 ⟨rfl, hg⟩
  replace hg := hg.below
  have T12 := Lib.hid (T11.out.trans (hg.mono T11.out.size))
  have B0_12 := Lib.hid (B0_11.out.below hg)
  have B1_12 := Lib.hid (B1_11.out.below hg)
  have B2_12 := Lib.hid (B2_11.out.below hg)
  clear hg
  clear bs0 bx0 by0 bf0 be0 bs1 bx1 by1 bf1 be1 bs2 bx2 by2 bf2 be2
  obtain ⟨bs0, bx0, by0, bf0, be0⟩ := B0_12.out
  obtain ⟨bs1, bx1, by1, bf1, be1⟩ := B1_12.out
  obtain ⟨bs2, bx2, by2, bf2, be2⟩ := B2_12.out
  go_wp2_with fail
  refine (mul_at (x := 2305843009213693952) (y := 1) (e := 0) _ (by decide +kernel) (by decide +kernel) (by decide +kernel) (by decide +kernel) (by decide +kernel)).mono ?_
  rintro e13 w13 ⟨rfl, hg⟩
  have T13 := Lib.hid (T12.out.trans (hg.mono T12.out.size))
  have B0_13 := Lib.hid (B0_12.out.below hg)
  have B1_13 := Lib.hid (B1_12.out.below hg)
  have B2_13 := Lib.hid (B2_12.out.below hg)
  clear hg
  clear bs0 bx0 by0 bf0 be0 bs1 bx1 by1 bf1 be1 bs2 bx2 by2 bf2 be2
  obtain ⟨bs0, bx0, by0, bf0, be0⟩ := B0_13.out
  obtain ⟨bs1, bx1, by1, bf1, be1⟩ := B1_13.out
  obtain ⟨bs2, bx2, by2, bf2, be2⟩ := B2_13.out
  go_wp2_with fail
  have G14 : Gr w13 (w13.alloc (.cells #[.int .i64 2305843009213693952, .int .i64 1] 23)) := (Gr.one _ _)
  have T14 := Lib.hid (T13.out.trans (G14.below.mono T13.out.size))
  have B0_14 := Lib.hid (B0_13.out.keep G14)
  have B1_14 := Lib.hid (B1_13.out.keep G14)
  have B2_14 := Lib.hid (B2_13.out.keep G14)
  have B3_14 : Hid (Blk (w13.alloc (.cells #[.int .i64 2305843009213693952, .int .i64 1] 23)) (w13.heap.size) (.int .i64 2305843009213693952) (.int .i64 1)) := Lib.hid (Blk.at00 _ _ _ _)
  generalize hw14 : (w13.alloc (.cells #[.int .i64 2305843009213693952, .int .i64 1] 23)) = w14 at *
  clear hw14 G14
  clear bs0 bx0 by0 bf0 be0 bs1 bx1 by1 bf1 be1 bs2 bx2 by2 bf2 be2
  obtain ⟨bs0, bx0, by0, bf0, be0⟩ := B0_14.out
  obtain ⟨bs1, bx1, by1, bf1, be1⟩ := B1_14.out
  obtain ⟨bs2, bx2, by2, bf2, be2⟩ := B2_14.out
  obtain ⟨bs3, bx3, by3, bf3, be3⟩ := B3_14.out
  refine (of_any _ _ _).mono ?_
  rintro e15 w15 ⟨rfl, hg⟩
  replace hg := hg.below
  have T15 := Lib.hid (T14.out.trans (hg.mono T14.out.size))
  have B0_15 := Lib.hid (B0_14.out.below hg)
  have B1_15 := Lib.hid (B1_14.out.below hg)
  have B2_15 := Lib.hid (B2_14.out.below hg)
  have B3_15 := Lib.hid (B3_14.out.below hg)
  clear hg
  clear bs0 bx0 by0 bf0 be0 bs1 bx1 by1 bf1 be1 bs2 bx2 by2 bf2 be2 bs3 bx3 by3 bf3 be3
  obtain ⟨bs0, bx0, by0, bf0, be0⟩ := B0_15.out
  obtain ⟨bs1, bx1, by1, bf1, be1⟩ := B1_15.out
  obtain ⟨bs2, bx2, by2, bf2, be2⟩ := B2_15.out
  obtain ⟨bs3, bx3, by3, bf3, be3⟩ := B3_15.out
  go_wp2_with fail
  refine (of_any _ _ _).mono ?_
  rintro e16 w16 ⟨rfl, hg⟩
  replace hg := hg.below
  have T16 := Lib.hid (T15.out.trans (hg.mono T15.out.size))
  have B0_16 := Lib.hid (B0_15.out.below hg)
  have B1_16 := Lib.hid (B1_15.out.below hg)
  have B2_16 := Lib.hid (B2_15.out.below hg)
  have B3_16 := Lib.hid (B3_15.out.below hg)
  clear hg
  clear bs0 bx0 by0 bf0 be0 bs1 bx1 by1 bf1 be1 bs2 bx2 by2 bf2 be2 bs3 bx3 by3 bf3 be3
  obtain ⟨bs0, bx0, by0, bf0, be0⟩ := B0_16.out
  obtain ⟨bs1, bx1, by1, bf1, be1⟩ := B1_16.out
  obtain ⟨bs2, bx2, by2, bf2, be2⟩ := B2_16.out
  obtain ⟨bs3, bx3, by3, bf3, be3⟩ := B3_16.out
  go_wp2_with fail
  refine (cmp_at (x := 1) _ (by decide +kernel) (by decide +kernel) (by decide +kernel)).mono ?_
  rintro e17 w17 ⟨rfl, hg⟩
  replace hg := hg.below
  have T17 := Lib.hid (T16.out.trans (hg.mono T16.out.size))
  have B0_17 := Lib.hid (B0_16.out.below hg)
  have B1_17 := Lib.hid (B1_16.out.below hg)
  have B2_17 := Lib.hid (B2_16.out.below hg)
  have B3_17 := Lib.hid (B3_16.out.below hg)
  clear hg
  clear bs0 bx0 by0 bf0 be0 bs1 bx1 by1 bf1 be1 bs2 bx2 by2 bf2 be2 bs3 bx3 by3 bf3 be3
  obtain ⟨bs0, bx0, by0, bf0, be0⟩ := B0_17.out
  obtain ⟨bs1, bx1, by1, bf1, be1⟩ := B1_17.out
  obtain ⟨bs2, bx2, by2, bf2, be2⟩ := B2_17.out
  obtain ⟨bs3, bx3, by3, bf3, be3⟩ := B3_17.out
  go_wp2_with fail
  refine (of_any _ _ _).mono ?_
  rintro e18 w18 ⟨rfl, hg⟩
  replace hg := hg.below
  have T18 := Lib.hid (T17.out.trans (hg.mono T17.out.size))
  have B0_18 := Lib.hid (B0_17.out.below hg)
  have B1_18 := Lib.hid (B1_17.out.below hg)
  have B2_18 := Lib.hid (B2_17.out.below hg)
  have B3_18 := Lib.hid (B3_17.out.below hg)
  clear hg
  clear bs0 bx0 by0 bf0 be0 bs1 bx1 by1 bf1 be1 bs2 bx2 by2 bf2 be2 bs3 bx3 by3 bf3 be3
  obtain ⟨bs0, bx0, by0, bf0, be0⟩ := B0_18.out
  obtain ⟨bs1, bx1, by1, bf1, be1⟩ := B1_18.out
  obtain ⟨bs2, bx2, by2, bf2, be2⟩ := B2_18.out
  obtain ⟨bs3, bx3, by3, bf3, be3⟩ := B3_18.out
  go_wp2_with fail
  refine (flr_at (x := -2) _ (by decide +kernel) (by decide +kernel)).mono ?_
  rintro e19 w19 ⟨rfl, hg⟩
  replace hg := hg.below
  have T19 := Lib.hid (T18.out.trans (hg.mono T18.out.size))
  have B0_19 := Lib.hid (B0_18.out.below hg)
  have B1_19 := Lib.hid (B1_18.out.below hg)
  have B2_19 := Lib.hid (B2_18.out.below hg)
  have B3_19 := Lib.hid (B3_18.out.below hg)
  clear hg
  clear bs0 bx0 by0 bf0 be0 bs1 bx1 by1 bf1 be1 bs2 bx2 by2 bf2 be2 bs3 bx3 by3 bf3 be3
  obtain ⟨bs0, bx0, by0, bf0, be0⟩ := B0_19.out
  obtain ⟨bs1, bx1, by1, bf1, be1⟩ := B1_19.out
  obtain ⟨bs2, bx2, by2, bf2, be2⟩ := B2_19.out
  obtain ⟨bs3, bx3, by3, bf3, be3⟩ := B3_19.out
  go_wp2_with fail
  refine (of_any _ _ _).mono ?_
  rintro e20 w20 ⟨rfl, hg⟩
  replace hg := hg.below
  have T20 := Lib.hid (T19.out.trans (hg.mono T19.out.size))
  have B0_20 := Lib.hid (B0_19.out.below hg)
  have B1_20 := Lib.hid (B1_19.out.below hg)
  have B2_20 := Lib.hid (B2_19.out.below hg)
  have B3_20 := Lib.hid (B3_19.out.below hg)
  clear hg
  clear bs0 bx0 by0 bf0 be0 bs1 bx1 by1 bf1 be1 bs2 bx2 by2 bf2 be2 bs3 bx3 by3 bf3 be3
  obtain ⟨bs0, bx0, by0, bf0, be0⟩ := B0_20.out
  obtain ⟨bs1, bx1, by1, bf1, be1⟩ := B1_20.out
  obtain ⟨bs2, bx2, by2, bf2, be2⟩ := B2_20.out
  obtain ⟨bs3, bx3, by3, bf3, be3⟩ := B3_20.out
  go_wp2_with fail
  refine (txt_at (t := ⟨#[45, 51, 47, 50]⟩) _ (HL.out.keep T20.out) (by decide +kernel) (by decide +kernel)).mono ?_
  rintro e21 w21 ⟨rfl, hg⟩
  replace hg := hg.below
  have T21 := Lib.hid (T20.out.trans (hg.mono T20.out.size))
  have B0_21 := Lib.hid (B0_20.out.below hg)
  have B1_21 := Lib.hid (B1_20.out.below hg)
  have B2_21 := Lib.hid (B2_20.out.below hg)
  have B3_21 := Lib.hid (B3_20.out.below hg)
  clear hg
  clear bs0 bx0 by0 bf0 be0 bs1 bx1 by1 bf1 be1 bs2 bx2 by2 bf2 be2 bs3 bx3 by3 bf3 be3
  obtain ⟨bs0, bx0, by0, bf0, be0⟩ := B0_21.out
  obtain ⟨bs1, bx1, by1, bf1, be1⟩ := B1_21.out
  obtain ⟨bs2, bx2, by2, bf2, be2⟩ := B2_21.out
  obtain ⟨bs3, bx3, by3, bf3, be3⟩ := B3_21.out
  go_wp2_with fail
  refine (parse_no _ _ (HL.out.keep T21.out) (by decide) six_four).mono ?_
  rintro e22 w22 ⟨rfl, hg⟩
  have T22 := Lib.hid (T21.out.trans (hg.mono T21.out.size))
  have B0_22 := Lib.hid (B0_21.out.below hg)
  have B1_22 := Lib.hid (B1_21.out.below hg)
  have B2_22 := Lib.hid (B2_21.out.below hg)
  have B3_22 := Lib.hid (B3_21.out.below hg)
  clear hg
  clear bs0 bx0 by0 bf0 be0 bs1 bx1 by1 bf1 be1 bs2 bx2 by2 bf2 be2 bs3 bx3 by3 bf3 be3
  obtain ⟨bs0, bx0, by0, bf0, be0⟩ := B0_22.out
  obtain ⟨bs1, bx1, by1, bf1, be1⟩ := B1_22.out
  obtain ⟨bs2, bx2, by2, bf2, be2⟩ := B2_22.out
  obtain ⟨bs3, bx3, by3, bf3, be3⟩ := B3_22.out
  go_wp2_with fail
  have G23 : Gr w22 (w22.alloc (.cells #[.int .i64 0, .int .i64 0] 23)) := (Gr.one _ _)
  have T23 := Lib.hid (T22.out.trans (G23.below.mono T22.out.size))
  have B0_23 := Lib.hid (B0_22.out.keep G23)
  have B1_23 := Lib.hid (B1_22.out.keep G23)
  have B2_23 := Lib.hid (B2_22.out.keep G23)
  have B3_23 := Lib.hid (B3_22.out.keep G23)
  have B4_23 : Hid (Blk (w22.alloc (.cells #[.int .i64 0, .int .i64 0] 23)) (w22.heap.size) (.int .i64 0) (.int .i64 0)) := Lib.hid (Blk.at00 _ _ _ _)
  generalize hw23 : (w22.alloc (.cells #[.int .i64 0, .int .i64 0] 23)) = w23 at *
  clear hw23 G23
  clear bs0 bx0 by0 bf0 be0 bs1 bx1 by1 bf1 be1 bs2 bx2 by2 bf2 be2 bs3 bx3 by3 bf3 be3
  obtain ⟨bs0, bx0, by0, bf0, be0⟩ := B0_23.out
  obtain ⟨bs1, bx1, by1, bf1, be1⟩ := B1_23.out
  obtain ⟨bs2, bx2, by2, bf2, be2⟩ := B2_23.out
  obtain ⟨bs3, bx3, by3, bf3, be3⟩ := B3_23.out
  obtain ⟨bs4, bx4, by4, bf4, be4⟩ := B4_23.out
  go_region_held3 (fun w' => w'.cell? ⟨w1.heap.size, 0, none⟩ = some (.int .i64 (-3)) ∧ w'.cell? ⟨w1.heap.size, 1, none⟩ = some (.int .i64 2) ∧ w'.cell? ⟨w5.heap.size, 0, none⟩ = some (.int .i64 1) ∧ w'.cell? ⟨w5.heap.size, 1, none⟩ = some (.int .i64 2) ∧ w'.cell? ⟨w13.heap.size, 0, none⟩ = some (.int .i64 2305843009213693952) ∧ w'.cell? ⟨w13.heap.size, 1, none⟩ = some (.int .i64 1)) (first | (go_keep; done) | ((try dsimp only); refine ⟨?_, ?_, ?_, ?_, ?_, ?_⟩ <;> simp [*]))
    (first | (go_at_call_of 26 (Value.int IntKind.i64 1); refine (of_any _ _ _).mono ?_; rintro e wqb ⟨rfl, hg⟩; (have Gb := Lib.hid (Ga.out.trans hg)); (obtain ⟨_, qb0, rb0, _⟩ := B0_23.out.keep (Gb.out)); (obtain ⟨_, qb1, rb1, _⟩ := B1_23.out.keep (Gb.out)); (obtain ⟨_, qb3, rb3, _⟩ := B3_23.out.keep (Gb.out)); clear hg) | (go_at_call_of 26 (Value.int IntKind.i64 2305843009213693952); refine (of_any _ _ _).mono ?_; rintro e wqc ⟨rfl, hg⟩; (have Gc := Lib.hid (Gb.out.trans hg)); (obtain ⟨_, qc0, rc0, _⟩ := B0_23.out.keep (Gc.out)); (obtain ⟨_, qc1, rc1, _⟩ := B1_23.out.keep (Gc.out)); (obtain ⟨_, qc3, rc3, _⟩ := B3_23.out.keep (Gc.out)); clear hg) | (go_at_call 26; refine (of_any _ _ _).mono ?_; rintro e wqa ⟨rfl, hg⟩; (have Ga := Lib.hid ((Gr.drewn _).trans hg)); (obtain ⟨_, qa0, ra0, _⟩ := B0_23.out.keep (Ga.out)); (obtain ⟨_, qa1, ra1, _⟩ := B1_23.out.keep (Ga.out)); (obtain ⟨_, qa3, ra3, _⟩ := B3_23.out.keep (Ga.out)); clear hg))
  go_wp2_with fail
  have T24 := Lib.hid (T23.out.trans (Gc.out.below.mono T23.out.size))
  clear bs0 bx0 by0 bf0 be0 bs1 bx1 by1 bf1 be1 bs2 bx2 by2 bf2 be2 bs3 bx3 by3 bf3 be3 bs4 bx4 by4 bf4 be4
  refine (of_any _ _ _).mono ?_
  rintro e25 w25 ⟨rfl, hg⟩
  replace hg := hg.below
  have T25 := Lib.hid (T24.out.trans (hg.mono T24.out.size))
  clear hg
  go_wp2_with fail
  refine (valid_at (v := true) (by decide +kernel) _ (by decide) (by decide) (by decide) (by decide)).mono ?_
  rintro e26 w26 ⟨rfl, hg⟩
  replace hg := hg.below
  have T26 := Lib.hid (T25.out.trans (hg.mono T25.out.size))
  clear hg
  go_wp2_with fail
  refine (of_any _ _ _).mono ?_
  rintro e27 w27 ⟨rfl, hg⟩
  replace hg := hg.below
  have T27 := Lib.hid (T26.out.trans (hg.mono T26.out.size))
  clear hg
  go_wp2_with fail
  refine (valid_at (v := false) (by decide +kernel) _ (by decide) (by decide) (by decide) (by decide)).mono ?_
  rintro e28 w28 ⟨rfl, hg⟩
  replace hg := hg.below
  have T28 := Lib.hid (T27.out.trans (hg.mono T27.out.size))
  clear hg
  go_wp2_with fail
  go_ret
  exact ⟨rfl, T28.out⟩
end Go.Proofs.YtdmddfhjfkdlnaaDoor
