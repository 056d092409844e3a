/- The walk of the law FractionFloors. Under the condition that the tables and the library's variables lie in memory as the program lays them. -/
import Derived.Test.YtdmddfhjfkdlnaaDoorHd
import Derived.Test.YtdmddfhjfkdlnaaDoorPc
namespace Go.Proofs.YtdmddfhjfkdlnaaDoor
open Go.RowKit

set_option maxHeartbeats 1000000 in
theorem floors_no (a b : Int) (w : World) (hL : Laid w) (hv : vld a b = false) (h0 : -9223372036854775808 ≤ a) (h1 : a ≤ 9223372036854775807) (k0 : -9223372036854775808 ≤ b) (k1 : b ≤ 9223372036854775807) : Calls Tryd.prog 6 #[.agg #[.int .i64 a, .int .i64 b]] w (Yes w) := by
  have HL := Lib.hid hL
  have HV := Lib.hid (fun W => valid_at hv W h0 h1 k0 k1)
  clear hL hv
  go_enter Tryd.func6, Tryd.ntmps6
  go_wp2_with fail
  have T0 := Lib.hid (Below.refl w.heap.size w)
  have G1 : Gr w (w.alloc (.cells #[.int .i64 a, .int .i64 b] 23)) := (Gr.one _ _)
  have T1 := Lib.hid (T0.out.trans (G1.below.mono T0.out.size))
  have B0_1 : Hid (Blk (w.alloc (.cells #[.int .i64 a, .int .i64 b] 23)) (w.heap.size) (.int .i64 a) (.int .i64 b)) := Lib.hid (Blk.at00 _ _ _ _)
  generalize hw1 : (w.alloc (.cells #[.int .i64 a, .int .i64 b] 23)) = w1 at *
  clear hw1 G1
  obtain ⟨bs0, bx0, by0, bf0, be0⟩ := B0_1.out
  refine (head_any _ (HL.out.keep T1.out)).mono ?_
  rintro e2 w2 ⟨rfl, hg⟩
  have T2 := Lib.hid (T1.out.trans (hg.mono T1.out.size))
  have B0_2 := Lib.hid (B0_1.out.below hg)
  clear hg
  clear bs0 bx0 by0 bf0 be0
  obtain ⟨bs0, bx0, by0, bf0, be0⟩ := B0_2.out
  go_wp2_with fail
  refine (HV.out _).mono ?_
  rintro e3 w3 ⟨rfl, hg⟩
  replace hg := hg.below
  have T3 := Lib.hid (T2.out.trans (hg.mono T2.out.size))
  have B0_3 := Lib.hid (B0_2.out.below hg)
  clear hg
  clear bs0 bx0 by0 bf0 be0
  obtain ⟨bs0, bx0, by0, bf0, be0⟩ := B0_3.out
  go_wp2_with fail
  go_ret
  exact ⟨rfl, T3.out⟩

set_option maxRecDepth 100000 in
set_option maxHeartbeats 4000000 in
theorem floors_yes (a b : Int) (w : World) (hL : Laid w) (hv : vld a b = true) : Calls Tryd.prog 6 #[.agg #[.int .i64 a, .int .i64 b]] w (Yes w) := by
  have HL := Lib.hid hL
  obtain ⟨v1, v2, v3, _⟩ := vld_iff.1 hv
  have HV := Lib.hid (fun W => valid_at hv W (by omega) (by omega) (by omega) (by omega))
  obtain ⟨n1, _, _⟩ := flr_bd a b hv
  have lo := flr_low a b hv
  have lb := cmp_bd (flr a b) 1 a b
  have hone : b = 1 → flr a b = a := fun e => by rw [e]; exact flr_one a
  have hi := flr_high a b hv
  obtain ⟨n, hn⟩ : ∃ n, flr a b = n := ⟨_, rfl⟩
  have HF := Lib.hid (fun W => flr_at W hv hn)
  rw [hn] at n1 lo lb hone hi
  obtain ⟨o1, o2, o3⟩ := of_int n n1
  have HO1 := Lib.hid (fun W => of_at W (by omega) (by omega) (by decide) (by decide) (by decide) o1 o2 o3)
  obtain ⟨c1, hc1⟩ : ∃ c1, cmp n 1 a b = c1 := ⟨_, rfl⟩
  have HC1 := Lib.hid (fun W => cmp_at W (vld_int n n1) hv hc1)
  rw [hc1] at lo lb
  clear hL hn o1 o2 o3 hc1
  have hb : (b == 1) = false ∨ ((b == 1) = true ∧ (n != a) = false) := by
    by_cases e : b = 1
    · right; exact ⟨by simp [e], by simp [hone e]⟩
    · left; simp [e]
  clear hone
  by_cases hbig : (n + 1).natAbs ≤ 4611686018427387904
  · have hi' := hi hbig
    obtain ⟨o1, o2, o3⟩ := of_int (n + 1) hbig
    have HO2 := Lib.hid (fun W => of_at W (by omega) (by omega) (by decide) (by decide) (by decide) o1 o2 o3)
    obtain ⟨c2, hc2⟩ : ∃ c2, cmp a b (n + 1) 1 = c2 := ⟨_, rfl⟩
    have HC2 := Lib.hid (fun W => cmp_at W hv (vld_int (n + 1) hbig) hc2)
    rw [hc2] at hi'
    clear hi o1 o2 o3 hc2 hv
    rcases hb with b1 | ⟨b1, b2⟩
    all_goals
      go_enter Tryd.func6, Tryd.ntmps6
      go_wp2_with fail
      have T0 := Lib.hid (Below.refl w.heap.size w)
      have G1 : Gr w (w.alloc (.cells #[.int .i64 a, .int .i64 b] 23)) := (Gr.one _ _)
      have T1 := Lib.hid (T0.out.trans (G1.below.mono T0.out.size))
      have B0_1 : Hid (Blk (w.alloc (.cells #[.int .i64 a, .int .i64 b] 23)) (w.heap.size) (.int .i64 a) (.int .i64 b)) := Lib.hid (Blk.at00 _ _ _ _)
      generalize hw1 : (w.alloc (.cells #[.int .i64 a, .int .i64 b] 23)) = w1 at *
      clear hw1 G1
      obtain ⟨bs0, bx0, by0, bf0, be0⟩ := B0_1.out
      refine (head_any _ (HL.out.keep T1.out)).mono ?_
      rintro e2 w2 ⟨rfl, hg⟩
      have T2 := Lib.hid (T1.out.trans (hg.mono T1.out.size))
      have B0_2 := Lib.hid (B0_1.out.below hg)
      clear hg
      clear bs0 bx0 by0 bf0 be0
      obtain ⟨bs0, bx0, by0, bf0, be0⟩ := B0_2.out
      go_wp2_with fail
      refine (HV.out _).mono ?_
      rintro e3 w3 ⟨rfl, hg⟩
      replace hg := hg.below
      have T3 := Lib.hid (T2.out.trans (hg.mono T2.out.size))
      have B0_3 := Lib.hid (B0_2.out.below hg)
      clear hg
      clear bs0 bx0 by0 bf0 be0
      obtain ⟨bs0, bx0, by0, bf0, be0⟩ := B0_3.out
      go_wp2_with fail
      refine (HF.out _).mono ?_
      rintro e4 w4 ⟨rfl, hg⟩
      replace hg := hg.below
      have T4 := Lib.hid (T3.out.trans (hg.mono T3.out.size))
      have B0_4 := Lib.hid (B0_3.out.below hg)
      clear hg
      clear bs0 bx0 by0 bf0 be0
      obtain ⟨bs0, bx0, by0, bf0, be0⟩ := B0_4.out
      go_wp2_with fail
      refine (HO1.out _).mono ?_
      rintro e5 w5 ⟨rfl, hg⟩
      have T5 := Lib.hid (T4.out.trans (hg.mono T4.out.size))
      have B0_5 := Lib.hid (B0_4.out.below hg)
      clear hg
      clear bs0 bx0 by0 bf0 be0
      obtain ⟨bs0, bx0, by0, bf0, be0⟩ := B0_5.out
      go_wp2_with fail
      have G6 : Gr w5 (w5.alloc (.cells #[.int .i64 n, .int .i64 1] 23)) := (Gr.one _ _)
      have T6 := Lib.hid (T5.out.trans (G6.below.mono T5.out.size))
      have B0_6 := Lib.hid (B0_5.out.keep G6)
      have B1_6 : Hid (Blk (w5.alloc (.cells #[.int .i64 n, .int .i64 1] 23)) (w5.heap.size) (.int .i64 n) (.int .i64 1)) := Lib.hid (Blk.at00 _ _ _ _)
      generalize hw6 : (w5.alloc (.cells #[.int .i64 n, .int .i64 1] 23)) = w6 at *
      clear hw6 G6
      clear bs0 bx0 by0 bf0 be0
      obtain ⟨bs0, bx0, by0, bf0, be0⟩ := B0_6.out
      obtain ⟨bs1, bx1, by1, bf1, be1⟩ := B1_6.out
      refine (HC1.out _).mono ?_
      rintro e7 w7 ⟨rfl, hg⟩
      replace hg := hg.below
      have T7 := Lib.hid (T6.out.trans (hg.mono T6.out.size))
      have B0_7 := Lib.hid (B0_6.out.below hg)
      have B1_7 := Lib.hid (B1_6.out.below hg)
      clear hg
      clear bs0 bx0 by0 bf0 be0 bs1 bx1 by1 bf1 be1
      obtain ⟨bs0, bx0, by0, bf0, be0⟩ := B0_7.out
      obtain ⟨bs1, bx1, by1, bf1, be1⟩ := B1_7.out
      go_wp2_with fail
      refine (HO2.out _).mono ?_
      rintro e8 w8 ⟨rfl, hg⟩
      have T8 := Lib.hid (T7.out.trans (hg.mono T7.out.size))
      have B0_8 := Lib.hid (B0_7.out.below hg)
      have B1_8 := Lib.hid (B1_7.out.below hg)
      clear hg
      clear bs0 bx0 by0 bf0 be0 bs1 bx1 by1 bf1 be1
      obtain ⟨bs0, bx0, by0, bf0, be0⟩ := B0_8.out
      obtain ⟨bs1, bx1, by1, bf1, be1⟩ := B1_8.out
      go_wp2_with fail
      have G9 : Gr w8 (w8.alloc (.cells #[.int .i64 (n + 1), .int .i64 1] 23)) := (Gr.one _ _)
      have T9 := Lib.hid (T8.out.trans (G9.below.mono T8.out.size))
      have B0_9 := Lib.hid (B0_8.out.keep G9)
      have B1_9 := Lib.hid (B1_8.out.keep G9)
      have B2_9 : Hid (Blk (w8.alloc (.cells #[.int .i64 (n + 1), .int .i64 1] 23)) (w8.heap.size) (.int .i64 (n + 1)) (.int .i64 1)) := Lib.hid (Blk.at00 _ _ _ _)
      generalize hw9 : (w8.alloc (.cells #[.int .i64 (n + 1), .int .i64 1] 23)) = w9 at *
      clear hw9 G9
      clear bs0 bx0 by0 bf0 be0 bs1 bx1 by1 bf1 be1
      obtain ⟨bs0, bx0, by0, bf0, be0⟩ := B0_9.out
      obtain ⟨bs1, bx1, by1, bf1, be1⟩ := B1_9.out
      obtain ⟨bs2, bx2, by2, bf2, be2⟩ := B2_9.out
      refine (HC2.out _).mono ?_
      rintro e10 w10 ⟨rfl, hg⟩
      replace hg := hg.below
      have T10 := Lib.hid (T9.out.trans (hg.mono T9.out.size))
      have B0_10 := Lib.hid (B0_9.out.below hg)
      have B1_10 := Lib.hid (B1_9.out.below hg)
      have B2_10 := Lib.hid (B2_9.out.below hg)
      clear hg
      clear bs0 bx0 by0 bf0 be0 bs1 bx1 by1 bf1 be1 bs2 bx2 by2 bf2 be2
      obtain ⟨bs0, bx0, by0, bf0, be0⟩ := B0_10.out
      obtain ⟨bs1, bx1, by1, bf1, be1⟩ := B1_10.out
      obtain ⟨bs2, bx2, by2, bf2, be2⟩ := B2_10.out
      go_wp2_with fail
      go_ret
      exact ⟨rfl, T10.out⟩
  · have hnm : n = 4611686018427387904 := by omega
    obtain ⟨o1, o2, o3⟩ := of_big (n + 1) (by omega)
    have HO2 := Lib.hid (fun W => of_at W (by omega) (by omega) (by decide) (by decide) (by decide) o1 o2 o3)
    have b3 : (n == 4611686018427387904) = true := by simp [hnm]
    clear hi o1 o2 o3 hv hnm
    rcases hb with b1 | ⟨b1, b2⟩
    all_goals
      go_enter Tryd.func6, Tryd.ntmps6
      go_wp2_with fail
      have T0 := Lib.hid (Below.refl w.heap.size w)
      have G1 : Gr w (w.alloc (.cells #[.int .i64 a, .int .i64 b] 23)) := (Gr.one _ _)
      have T1 := Lib.hid (T0.out.trans (G1.below.mono T0.out.size))
      have B0_1 : Hid (Blk (w.alloc (.cells #[.int .i64 a, .int .i64 b] 23)) (w.heap.size) (.int .i64 a) (.int .i64 b)) := Lib.hid (Blk.at00 _ _ _ _)
      generalize hw1 : (w.alloc (.cells #[.int .i64 a, .int .i64 b] 23)) = w1 at *
      clear hw1 G1
      obtain ⟨bs0, bx0, by0, bf0, be0⟩ := B0_1.out
      refine (head_any _ (HL.out.keep T1.out)).mono ?_
      rintro e2 w2 ⟨rfl, hg⟩
      have T2 := Lib.hid (T1.out.trans (hg.mono T1.out.size))
      have B0_2 := Lib.hid (B0_1.out.below hg)
      clear hg
      clear bs0 bx0 by0 bf0 be0
      obtain ⟨bs0, bx0, by0, bf0, be0⟩ := B0_2.out
      go_wp2_with fail
      refine (HV.out _).mono ?_
      rintro e3 w3 ⟨rfl, hg⟩
      replace hg := hg.below
      have T3 := Lib.hid (T2.out.trans (hg.mono T2.out.size))
      have B0_3 := Lib.hid (B0_2.out.below hg)
      clear hg
      clear bs0 bx0 by0 bf0 be0
      obtain ⟨bs0, bx0, by0, bf0, be0⟩ := B0_3.out
      go_wp2_with fail
      refine (HF.out _).mono ?_
      rintro e4 w4 ⟨rfl, hg⟩
      replace hg := hg.below
      have T4 := Lib.hid (T3.out.trans (hg.mono T3.out.size))
      have B0_4 := Lib.hid (B0_3.out.below hg)
      clear hg
      clear bs0 bx0 by0 bf0 be0
      obtain ⟨bs0, bx0, by0, bf0, be0⟩ := B0_4.out
      go_wp2_with fail
      refine (HO1.out _).mono ?_
      rintro e5 w5 ⟨rfl, hg⟩
      have T5 := Lib.hid (T4.out.trans (hg.mono T4.out.size))
      have B0_5 := Lib.hid (B0_4.out.below hg)
      clear hg
      clear bs0 bx0 by0 bf0 be0
      obtain ⟨bs0, bx0, by0, bf0, be0⟩ := B0_5.out
      go_wp2_with fail
      have G6 : Gr w5 (w5.alloc (.cells #[.int .i64 n, .int .i64 1] 23)) := (Gr.one _ _)
      have T6 := Lib.hid (T5.out.trans (G6.below.mono T5.out.size))
      have B0_6 := Lib.hid (B0_5.out.keep G6)
      have B1_6 : Hid (Blk (w5.alloc (.cells #[.int .i64 n, .int .i64 1] 23)) (w5.heap.size) (.int .i64 n) (.int .i64 1)) := Lib.hid (Blk.at00 _ _ _ _)
      generalize hw6 : (w5.alloc (.cells #[.int .i64 n, .int .i64 1] 23)) = w6 at *
      clear hw6 G6
      clear bs0 bx0 by0 bf0 be0
      obtain ⟨bs0, bx0, by0, bf0, be0⟩ := B0_6.out
      obtain ⟨bs1, bx1, by1, bf1, be1⟩ := B1_6.out
      refine (HC1.out _).mono ?_
      rintro e7 w7 ⟨rfl, hg⟩
      replace hg := hg.below
      have T7 := Lib.hid (T6.out.trans (hg.mono T6.out.size))
      have B0_7 := Lib.hid (B0_6.out.below hg)
      have B1_7 := Lib.hid (B1_6.out.below hg)
      clear hg
      clear bs0 bx0 by0 bf0 be0 bs1 bx1 by1 bf1 be1
      obtain ⟨bs0, bx0, by0, bf0, be0⟩ := B0_7.out
      obtain ⟨bs1, bx1, by1, bf1, be1⟩ := B1_7.out
      go_wp2_with fail
      refine (HO2.out _).mono ?_
      rintro e8 w8 ⟨rfl, hg⟩
      have T8 := Lib.hid (T7.out.trans (hg.mono T7.out.size))
      have B0_8 := Lib.hid (B0_7.out.below hg)
      have B1_8 := Lib.hid (B1_7.out.below hg)
      clear hg
      clear bs0 bx0 by0 bf0 be0 bs1 bx1 by1 bf1 be1
      obtain ⟨bs0, bx0, by0, bf0, be0⟩ := B0_8.out
      obtain ⟨bs1, bx1, by1, bf1, be1⟩ := B1_8.out
      go_wp2_with fail
      have G9 : Gr w8 (w8.alloc (.cells #[.int .i64 0, .int .i64 0] 23)) := (Gr.one _ _)
      have T9 := Lib.hid (T8.out.trans (G9.below.mono T8.out.size))
      have B0_9 := Lib.hid (B0_8.out.keep G9)
      have B1_9 := Lib.hid (B1_8.out.keep G9)
      have B2_9 : Hid (Blk (w8.alloc (.cells #[.int .i64 0, .int .i64 0] 23)) (w8.heap.size) (.int .i64 0) (.int .i64 0)) := Lib.hid (Blk.at00 _ _ _ _)
      generalize hw9 : (w8.alloc (.cells #[.int .i64 0, .int .i64 0] 23)) = w9 at *
      clear hw9 G9
      clear bs0 bx0 by0 bf0 be0 bs1 bx1 by1 bf1 be1
      obtain ⟨bs0, bx0, by0, bf0, be0⟩ := B0_9.out
      obtain ⟨bs1, bx1, by1, bf1, be1⟩ := B1_9.out
      obtain ⟨bs2, bx2, by2, bf2, be2⟩ := B2_9.out
      go_wp2_with fail
      go_ret
      exact ⟨rfl, T9.out⟩
theorem floors_walk (a b : Int) (w : World) (hL : Laid w) (h0 : -9223372036854775808 ≤ a) (h1 : a ≤ 9223372036854775807) (k0 : -9223372036854775808 ≤ b) (k1 : b ≤ 9223372036854775807) : Calls Tryd.prog 6 #[.agg #[.int .i64 a, .int .i64 b]] w (Yes w) := by
  cases hv : vld a b
  · exact floors_no a b w hL hv h0 h1 k0 k1
  · exact floors_yes a b w hL hv
end Go.Proofs.YtdmddfhjfkdlnaaDoor
