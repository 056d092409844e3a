/- The walk of the law FractionResults. Under the condition that the tables and the library's variables lie in memory as the program lays them. -/
import Derived.Test.YtdmddfhjfkdlnaaDoorHd
import Derived.Test.YtdmddfhjfkdlnaaDoorPe
import Derived.Deep.DeepCutAuto
namespace Go.Proofs.YtdmddfhjfkdlnaaDoor
open Go.RowKit
set_option maxRecDepth 100000 in
set_option maxHeartbeats 20000000 in
theorem results_way (a b c d m n an ad ae bn bd be cn cd ce dn dd de xn xd xe yn yd ye : Int) (v1 v2 s1 s2 : Bool) (s : ByteArray) (w : World) (hs : s.size ≤ 100) (HL : Hid (Laid w))
    (HO : Hid (∀ W, Calls Tryd.prog 10 #[.int .i64 m, .int .i64 n] W fun e w' => e = .returned (.tuple #[.agg #[.int .i64 an, .int .i64 ad], .int .i64 ae]) ∧ Below W.heap.size W w'))
    (HA : Hid (∀ W, Calls Tryd.prog 12 #[.agg #[.int .i64 a, .int .i64 b], .agg #[.int .i64 c, .int .i64 d]] W fun e w' => e = .returned (.tuple #[.agg #[.int .i64 bn, .int .i64 bd], .int .i64 be]) ∧ Below W.heap.size W w'))
    (HM : Hid (∀ W, Calls Tryd.prog 14 #[.agg #[.int .i64 a, .int .i64 b], .agg #[.int .i64 c, .int .i64 d]] W fun e w' => e = .returned (.tuple #[.agg #[.int .i64 cn, .int .i64 cd], .int .i64 ce]) ∧ Below W.heap.size W w'))
    (HP : Hid (∀ W, Laid W → Calls Tryd.prog 24 #[.string s] W fun e w' => e = .returned (.tuple #[.agg #[.int .i64 dn, .int .i64 dd], .int .i64 de]) ∧ Below W.heap.size W w'))
    (HVa : Hid (ae = 0 → ∀ W, Calls Tryd.prog 16 #[.agg #[.int .i64 an, .int .i64 ad]] W fun e w' => e = .returned (.bool true) ∧ Gr W w'))
    (HVb : Hid (be = 0 → ∀ W, Calls Tryd.prog 16 #[.agg #[.int .i64 bn, .int .i64 bd]] W fun e w' => e = .returned (.bool true) ∧ Gr W w'))
    (HVc : Hid (ce = 0 → ∀ W, Calls Tryd.prog 16 #[.agg #[.int .i64 cn, .int .i64 cd]] W fun e w' => e = .returned (.bool true) ∧ Gr W w'))
    (HVd : Hid (de = 0 → ∀ W, Calls Tryd.prog 16 #[.agg #[.int .i64 dn, .int .i64 dd]] W fun e w' => e = .returned (.bool true) ∧ Gr W w'))
    (HV1 : Hid (∀ W, Calls Tryd.prog 16 #[.agg #[.int .i64 a, .int .i64 b]] W fun e w' => e = .returned (.bool v1) ∧ Gr W w'))
    (HV2 : Hid (∀ W, Calls Tryd.prog 16 #[.agg #[.int .i64 c, .int .i64 d]] W fun e w' => e = .returned (.bool v2) ∧ Gr W w'))
    (HS1 : Hid (∀ W, Calls Tryd.prog 27 #[.agg #[.int .i64 a, .int .i64 b]] W fun e w' => e = .returned (.bool s1) ∧ Gr W w'))
    (HS2 : Hid (∀ W, Calls Tryd.prog 27 #[.agg #[.int .i64 c, .int .i64 d]] W fun e w' => e = .returned (.bool s2) ∧ Gr W w'))
    (HX : Hid (∀ W, Calls Tryd.prog 10 #[.int .i64 m, .int .i64 1] W fun e w' => e = .returned (.tuple #[.agg #[.int .i64 xn, .int .i64 xd], .int .i64 xe]) ∧ Below W.heap.size W w'))
    (HY : Hid (∀ W, Calls Tryd.prog 10 #[.int .i64 n, .int .i64 1] W fun e w' => e = .returned (.tuple #[.agg #[.int .i64 yn, .int .i64 yd], .int .i64 ye]) ∧ Below W.heap.size W w'))
    (HB : Hid (ae = 0 → xe = 0 → ye = 0 → ∀ W, Calls Tryd.prog 14 #[.agg #[.int .i64 an, .int .i64 ad], .agg #[.int .i64 yn, .int .i64 yd]] W fun e w' => e = .returned (.tuple #[.agg #[.int .i64 xn, .int .i64 xd], .int .i64 0]) ∧ Below W.heap.size W w'))
    (FV : Hid ((v1 && v2) = false → be = 1 ∧ ce = 1))
    (FS : Hid ((v1 && v2) = true → s1 = true → s2 = true → be = 0 ∧ ce = 0))
    (FZ : Hid ((ae == 14) = (n == 0))) : Calls Tryd.prog 8 #[.agg #[.int .i64 a, .int .i64 b], .agg #[.int .i64 c, .int .i64 d], .int .i64 m, .int .i64 n, .string s] w (Yes w) := by
  go_enter Tryd.func8, Tryd.ntmps8
  go_wp2_with fail
  have T0 := Lib.hid (Below.refl w.heap.size w)
  have G1 : Gr w ((w.alloc (.cells #[.int .i64 a, .int .i64 b] 23)).alloc (.cells #[.int .i64 c, .int .i64 d] 23)) := ((Gr.one _ _).alloc _)
  have T1 := Lib.hid (T0.out.trans (G1.below.mono T0.out.size))
  have B0_1 : Hid (Blk ((w.alloc (.cells #[.int .i64 a, .int .i64 b] 23)).alloc (.cells #[.int .i64 c, .int .i64 d] 23)) (w.heap.size) (.int .i64 a) (.int .i64 b)) := Lib.hid (Blk.at01 _ _ _ _ _)
  have B1_1 : Hid (Blk ((w.alloc (.cells #[.int .i64 a, .int .i64 b] 23)).alloc (.cells #[.int .i64 c, .int .i64 d] 23)) (w.heap.size + 1) (.int .i64 c) (.int .i64 d)) := Lib.hid (Blk.at10 _ _ _ _ _)
  generalize hw1 : ((w.alloc (.cells #[.int .i64 a, .int .i64 b] 23)).alloc (.cells #[.int .i64 c, .int .i64 d] 23)) = w1 at *
  clear hw1 G1
  obtain ⟨bs0, bx0, by0, bf0, be0⟩ := B0_1.out
  obtain ⟨bs1, bx1, by1, bf1, be1⟩ := B1_1.out
  refine (head_any _ (HL.out.keep T1.out)).mono ?_
  rintro e2 w2 ⟨rfl, hg⟩
  have T2 := Lib.hid (T1.out.trans (hg.mono T1.out.size))
  have B0_2 := Lib.hid (B0_1.out.below hg)
  have B1_2 := Lib.hid (B1_1.out.below hg)
  clear hg
  clear bs0 bx0 by0 bf0 be0 bs1 bx1 by1 bf1 be1
  obtain ⟨bs0, bx0, by0, bf0, be0⟩ := B0_2.out
  obtain ⟨bs1, bx1, by1, bf1, be1⟩ := B1_2.out
  go_wp2_with fail
  refine (HO.out _).mono ?_
  rintro e3 w3 ⟨rfl, hg⟩
  have T3 := Lib.hid (T2.out.trans (hg.mono T2.out.size))
  have B0_3 := Lib.hid (B0_2.out.below hg)
  have B1_3 := Lib.hid (B1_2.out.below hg)
  clear hg
  clear bs0 bx0 by0 bf0 be0 bs1 bx1 by1 bf1 be1
  obtain ⟨bs0, bx0, by0, bf0, be0⟩ := B0_3.out
  obtain ⟨bs1, bx1, by1, bf1, be1⟩ := B1_3.out
  go_wp2_with fail
  have G4 : Gr w3 (w3.alloc (.cells #[.int .i64 an, .int .i64 ad] 23)) := (Gr.one _ _)
  have T4 := Lib.hid (T3.out.trans (G4.below.mono T3.out.size))
  have B0_4 := Lib.hid (B0_3.out.keep G4)
  have B1_4 := Lib.hid (B1_3.out.keep G4)
  have B2_4 : Hid (Blk (w3.alloc (.cells #[.int .i64 an, .int .i64 ad] 23)) (w3.heap.size) (.int .i64 an) (.int .i64 ad)) := Lib.hid (Blk.at00 _ _ _ _)
  generalize hw4 : (w3.alloc (.cells #[.int .i64 an, .int .i64 ad] 23)) = w4 at *
  clear hw4 G4
  clear bs0 bx0 by0 bf0 be0 bs1 bx1 by1 bf1 be1
  obtain ⟨bs0, bx0, by0, bf0, be0⟩ := B0_4.out
  obtain ⟨bs1, bx1, by1, bf1, be1⟩ := B1_4.out
  obtain ⟨bs2, bx2, by2, bf2, be2⟩ := B2_4.out
  refine (HA.out _).mono ?_
  rintro e5 w5 ⟨rfl, hg⟩
  have T5 := Lib.hid (T4.out.trans (hg.mono T4.out.size))
  have B0_5 := Lib.hid (B0_4.out.below hg)
  have B1_5 := Lib.hid (B1_4.out.below hg)
  have B2_5 := Lib.hid (B2_4.out.below hg)
  clear hg
  clear bs0 bx0 by0 bf0 be0 bs1 bx1 by1 bf1 be1 bs2 bx2 by2 bf2 be2
  obtain ⟨bs0, bx0, by0, bf0, be0⟩ := B0_5.out
  obtain ⟨bs1, bx1, by1, bf1, be1⟩ := B1_5.out
  obtain ⟨bs2, bx2, by2, bf2, be2⟩ := B2_5.out
  go_wp2_with fail
  have G6 : Gr w5 (w5.alloc (.cells #[.int .i64 bn, .int .i64 bd] 23)) := (Gr.one _ _)
  have T6 := Lib.hid (T5.out.trans (G6.below.mono T5.out.size))
  have B0_6 := Lib.hid (B0_5.out.keep G6)
  have B1_6 := Lib.hid (B1_5.out.keep G6)
  have B2_6 := Lib.hid (B2_5.out.keep G6)
  have B3_6 : Hid (Blk (w5.alloc (.cells #[.int .i64 bn, .int .i64 bd] 23)) (w5.heap.size) (.int .i64 bn) (.int .i64 bd)) := Lib.hid (Blk.at00 _ _ _ _)
  generalize hw6 : (w5.alloc (.cells #[.int .i64 bn, .int .i64 bd] 23)) = w6 at *
  clear hw6 G6
  clear bs0 bx0 by0 bf0 be0 bs1 bx1 by1 bf1 be1 bs2 bx2 by2 bf2 be2
  obtain ⟨bs0, bx0, by0, bf0, be0⟩ := B0_6.out
  obtain ⟨bs1, bx1, by1, bf1, be1⟩ := B1_6.out
  obtain ⟨bs2, bx2, by2, bf2, be2⟩ := B2_6.out
  obtain ⟨bs3, bx3, by3, bf3, be3⟩ := B3_6.out
  refine (HM.out _).mono ?_
  rintro e7 w7 ⟨rfl, hg⟩
  have T7 := Lib.hid (T6.out.trans (hg.mono T6.out.size))
  have B0_7 := Lib.hid (B0_6.out.below hg)
  have B1_7 := Lib.hid (B1_6.out.below hg)
  have B2_7 := Lib.hid (B2_6.out.below hg)
  have B3_7 := Lib.hid (B3_6.out.below hg)
  clear hg
  clear bs0 bx0 by0 bf0 be0 bs1 bx1 by1 bf1 be1 bs2 bx2 by2 bf2 be2 bs3 bx3 by3 bf3 be3
  obtain ⟨bs0, bx0, by0, bf0, be0⟩ := B0_7.out
  obtain ⟨bs1, bx1, by1, bf1, be1⟩ := B1_7.out
  obtain ⟨bs2, bx2, by2, bf2, be2⟩ := B2_7.out
  obtain ⟨bs3, bx3, by3, bf3, be3⟩ := B3_7.out
  go_wp2_with fail
  have G8 : Gr w7 (w7.alloc (.cells #[.int .i64 cn, .int .i64 cd] 23)) := (Gr.one _ _)
  have T8 := Lib.hid (T7.out.trans (G8.below.mono T7.out.size))
  have B0_8 := Lib.hid (B0_7.out.keep G8)
  have B1_8 := Lib.hid (B1_7.out.keep G8)
  have B2_8 := Lib.hid (B2_7.out.keep G8)
  have B3_8 := Lib.hid (B3_7.out.keep G8)
  have B4_8 : Hid (Blk (w7.alloc (.cells #[.int .i64 cn, .int .i64 cd] 23)) (w7.heap.size) (.int .i64 cn) (.int .i64 cd)) := Lib.hid (Blk.at00 _ _ _ _)
  generalize hw8 : (w7.alloc (.cells #[.int .i64 cn, .int .i64 cd] 23)) = w8 at *
  clear hw8 G8
  clear bs0 bx0 by0 bf0 be0 bs1 bx1 by1 bf1 be1 bs2 bx2 by2 bf2 be2 bs3 bx3 by3 bf3 be3
  obtain ⟨bs0, bx0, by0, bf0, be0⟩ := B0_8.out
  obtain ⟨bs1, bx1, by1, bf1, be1⟩ := B1_8.out
  obtain ⟨bs2, bx2, by2, bf2, be2⟩ := B2_8.out
  obtain ⟨bs3, bx3, by3, bf3, be3⟩ := B3_8.out
  obtain ⟨bs4, bx4, by4, bf4, be4⟩ := B4_8.out
  refine (HP.out _ (HL.out.keep T8.out)).mono ?_
  rintro e9 w9 ⟨rfl, hg⟩
  have T9 := Lib.hid (T8.out.trans (hg.mono T8.out.size))
  have B0_9 := Lib.hid (B0_8.out.below hg)
  have B1_9 := Lib.hid (B1_8.out.below hg)
  have B2_9 := Lib.hid (B2_8.out.below hg)
  have B3_9 := Lib.hid (B3_8.out.below hg)
  have B4_9 := Lib.hid (B4_8.out.below hg)
  clear hg
  clear bs0 bx0 by0 bf0 be0 bs1 bx1 by1 bf1 be1 bs2 bx2 by2 bf2 be2 bs3 bx3 by3 bf3 be3 bs4 bx4 by4 bf4 be4
  obtain ⟨bs0, bx0, by0, bf0, be0⟩ := B0_9.out
  obtain ⟨bs1, bx1, by1, bf1, be1⟩ := B1_9.out
  obtain ⟨bs2, bx2, by2, bf2, be2⟩ := B2_9.out
  obtain ⟨bs3, bx3, by3, bf3, be3⟩ := B3_9.out
  obtain ⟨bs4, bx4, by4, bf4, be4⟩ := B4_9.out
  go_upto_region 8 with fail
  have G10 : Gr w9 (w9.alloc (.cells #[.int .i64 dn, .int .i64 dd] 23)) := (Gr.one _ _)
  have T10 := Lib.hid (T9.out.trans (G10.below.mono T9.out.size))
  have B0_10 := Lib.hid (B0_9.out.keep G10)
  have B1_10 := Lib.hid (B1_9.out.keep G10)
  have B2_10 := Lib.hid (B2_9.out.keep G10)
  have B3_10 := Lib.hid (B3_9.out.keep G10)
  have B4_10 := Lib.hid (B4_9.out.keep G10)
  have B5_10 : Hid (Blk (w9.alloc (.cells #[.int .i64 dn, .int .i64 dd] 23)) (w9.heap.size) (.int .i64 dn) (.int .i64 dd)) := Lib.hid (Blk.at00 _ _ _ _)
  generalize hw10 : (w9.alloc (.cells #[.int .i64 dn, .int .i64 dd] 23)) = w10 at *
  clear hw10 G10
  clear bs0 bx0 by0 bf0 be0 bs1 bx1 by1 bf1 be1 bs2 bx2 by2 bf2 be2 bs3 bx3 by3 bf3 be3 bs4 bx4 by4 bf4 be4
  obtain ⟨bs0, bx0, by0, bf0, be0⟩ := B0_10.out
  obtain ⟨bs1, bx1, by1, bf1, be1⟩ := B1_10.out
  obtain ⟨bs2, bx2, by2, bf2, be2⟩ := B2_10.out
  obtain ⟨bs3, bx3, by3, bf3, be3⟩ := B3_10.out
  obtain ⟨bs4, bx4, by4, bf4, be4⟩ := B4_10.out
  obtain ⟨bs5, bx5, by5, bf5, be5⟩ := B5_10.out
  go_cut [88] (fun s88 wx => s88 = .bool false ∧ Gr w10 wx)
  case first =>
    have GX := Lib.hid (Gr.refl w10)
    have ca : ae = 0 ∨ (ae == 0) = false := by by_cases e : ae = 0; exact Or.inl e; exact Or.inr (by simp [e])
    have cb : be = 0 ∨ (be == 0) = false := by by_cases e : be = 0; exact Or.inl e; exact Or.inr (by simp [e])
    have cc : ce = 0 ∨ (ce == 0) = false := by by_cases e : ce = 0; exact Or.inl e; exact Or.inr (by simp [e])
    have ck : de = 0 ∨ (de == 0) = false := by by_cases e : de = 0; exact Or.inl e; exact Or.inr (by simp [e])
    clear HO HA HM HP HV1 HV2 HS1 HS2 HX HY HB FV FS FZ HL
    rcases ca with rfl | ca <;> rcases cb with rfl | cb <;> rcases cc with rfl | cc <;> rcases ck with rfl | ck
    all_goals
      try (have KVa := Lib.hid (HVa.out rfl))
      try (have KVb := Lib.hid (HVb.out rfl))
      try (have KVc := Lib.hid (HVc.out rfl))
      try (have KVd := Lib.hid (HVd.out rfl))
      clear HVa HVb HVc HVd
      go_wp2_with (first | (go_at_call_of 16 (Value.agg #[Value.int IntKind.i64 an, Value.int IntKind.i64 ad]); refine (KVa.out _).mono ?_; rintro e wq ⟨rfl, hg⟩; (replace GX := Lib.hid (GX.out.trans hg)); (obtain ⟨_, cx2, cy2, _⟩ := B2_10.out.keep GX.out); (obtain ⟨_, cx3, cy3, _⟩ := B3_10.out.keep GX.out); (obtain ⟨_, cx4, cy4, _⟩ := B4_10.out.keep GX.out); (obtain ⟨_, cx5, cy5, _⟩ := B5_10.out.keep GX.out); clear hg) | (go_at_call_of 16 (Value.agg #[Value.int IntKind.i64 bn, Value.int IntKind.i64 bd]); refine (KVb.out _).mono ?_; rintro e wq ⟨rfl, hg⟩; (replace GX := Lib.hid (GX.out.trans hg)); (obtain ⟨_, cx3, cy3, _⟩ := B3_10.out.keep GX.out); (obtain ⟨_, cx4, cy4, _⟩ := B4_10.out.keep GX.out); (obtain ⟨_, cx5, cy5, _⟩ := B5_10.out.keep GX.out); clear hg) | (go_at_call_of 16 (Value.agg #[Value.int IntKind.i64 cn, Value.int IntKind.i64 cd]); refine (KVc.out _).mono ?_; rintro e wq ⟨rfl, hg⟩; (replace GX := Lib.hid (GX.out.trans hg)); (obtain ⟨_, cx4, cy4, _⟩ := B4_10.out.keep GX.out); (obtain ⟨_, cx5, cy5, _⟩ := B5_10.out.keep GX.out); clear hg) | (go_at_call_of 16 (Value.agg #[Value.int IntKind.i64 dn, Value.int IntKind.i64 dd]); refine (KVd.out _).mono ?_; rintro e wq ⟨rfl, hg⟩; (replace GX := Lib.hid (GX.out.trans hg)); (obtain ⟨_, cx5, cy5, _⟩ := B5_10.out.keep GX.out); clear hg))
      go_meet
      exact ⟨rfl, GX.out⟩
  case rest =>
    obtain ⟨rfl, hG⟩ := hcut
    obtain ⟨wa, hw⟩ : ∃ wa, wa = wc := ⟨_, rfl⟩
    subst hw
    have T11 := Lib.hid (T10.out.trans (hG.below.mono T10.out.size))
    have B0_11 := Lib.hid (B0_10.out.keep hG)
    have B1_11 := Lib.hid (B1_10.out.keep hG)
    have B2_11 := Lib.hid (B2_10.out.keep hG)
    have B3_11 := Lib.hid (B3_10.out.keep hG)
    have B4_11 := Lib.hid (B4_10.out.keep hG)
    have B5_11 := Lib.hid (B5_10.out.keep hG)
    clear hG
    clear bs0 bx0 by0 bf0 be0 bs1 bx1 by1 bf1 be1 bs2 bx2 by2 bf2 be2 bs3 bx3 by3 bf3 be3 bs4 bx4 by4 bf4 be4 bs5 bx5 by5 bf5 be5
    obtain ⟨bs0, bx0, by0, bf0, be0⟩ := B0_11.out
    obtain ⟨bs1, bx1, by1, bf1, be1⟩ := B1_11.out
    obtain ⟨bs2, bx2, by2, bf2, be2⟩ := B2_11.out
    obtain ⟨bs3, bx3, by3, bf3, be3⟩ := B3_11.out
    obtain ⟨bs4, bx4, by4, bf4, be4⟩ := B4_11.out
    obtain ⟨bs5, bx5, by5, bf5, be5⟩ := B5_11.out
    go_upto_region 10 with fail
    go_cut [20] (fun s20 wx => s20 = .bool (v1 && v2) ∧ Gr wa wx)
    case first =>
      clear HO HA HM HP HS1 HS2 HX HY HB FV FS FZ HL HVa HVb HVc HVd
      cases v1
      · go_wp2_with fail
        refine (HV1.out _).mono ?_
        rintro e wq ⟨rfl, hg⟩
        have GX := Lib.hid hg
        clear hg
        go_wp2_with fail
        go_meet
        exact ⟨rfl, GX.out⟩
      · go_wp2_with fail
        refine (HV1.out _).mono ?_
        rintro e wq ⟨rfl, hg⟩
        have GX := Lib.hid hg
        obtain ⟨_, cx1, cy1, _⟩ := B1_11.out.keep hg
        clear hg
        go_wp2_with fail
        refine (HV2.out _).mono ?_
        rintro e wr ⟨rfl, hg⟩
        have GY := Lib.hid (GX.out.trans hg)
        clear hg
        go_wp2_with fail
        go_meet
        exact ⟨rfl, GY.out⟩
    case rest =>
      obtain ⟨rfl, hG⟩ := hcut
      obtain ⟨wb, hw⟩ : ∃ wb, wb = wc := ⟨_, rfl⟩
      subst hw
      have T12 := Lib.hid (T11.out.trans (hG.below.mono T11.out.size))
      have B0_12 := Lib.hid (B0_11.out.keep hG)
      have B1_12 := Lib.hid (B1_11.out.keep hG)
      have B2_12 := Lib.hid (B2_11.out.keep hG)
      have B3_12 := Lib.hid (B3_11.out.keep hG)
      have B4_12 := Lib.hid (B4_11.out.keep hG)
      have B5_12 := Lib.hid (B5_11.out.keep hG)
      clear hG
      clear bs0 bx0 by0 bf0 be0 bs1 bx1 by1 bf1 be1 bs2 bx2 by2 bf2 be2 bs3 bx3 by3 bf3 be3 bs4 bx4 by4 bf4 be4 bs5 bx5 by5 bf5 be5
      obtain ⟨bs0, bx0, by0, bf0, be0⟩ := B0_12.out
      obtain ⟨bs1, bx1, by1, bf1, be1⟩ := B1_12.out
      obtain ⟨bs2, bx2, by2, bf2, be2⟩ := B2_12.out
      obtain ⟨bs3, bx3, by3, bf3, be3⟩ := B3_12.out
      obtain ⟨bs4, bx4, by4, bf4, be4⟩ := B4_12.out
      obtain ⟨bs5, bx5, by5, bf5, be5⟩ := B5_12.out
      go_upto_region 11 with fail
      go_cut [130] (fun s130 wx => s130 = .bool false ∧ Gr wb wx)
      case first =>
        clear HO HA HM HP HV1 HV2 HX HY HB HL HVa HVb HVc HVd
        have GX := Lib.hid (Gr.refl wb)
        obtain ⟨z, hz⟩ : ∃ z, (n == 0) = z := ⟨_, rfl⟩
        have hz' : (ae == 14) = z := FZ.out.trans hz
        clear FZ
        generalize (v1 && v2) = v at *
        cases v
        · obtain ⟨rfl, rfl⟩ := FV.out rfl
          cases z
          all_goals
            go_wp2_with fail
            go_meet
            exact ⟨rfl, GX.out⟩
        · cases s1
          · cases z
            all_goals
              go_wp2_with (first | (go_at_call_of 27 (Value.agg #[Value.int IntKind.i64 a, Value.int IntKind.i64 b]); refine (HS1.out _).mono ?_; rintro e wq ⟨rfl, hg⟩; (replace GX := Lib.hid (GX.out.trans hg)); (obtain ⟨_, cx1, cy1, _⟩ := B1_12.out.keep GX.out); clear hg) | (go_at_call_of 27 (Value.agg #[Value.int IntKind.i64 c, Value.int IntKind.i64 d]); refine (HS2.out _).mono ?_; rintro e wq ⟨rfl, hg⟩; (replace GX := Lib.hid (GX.out.trans hg)); clear hg))
              go_meet
              exact ⟨rfl, GX.out⟩
          · cases s2
            · cases z
              all_goals
                go_wp2_with (first | (go_at_call_of 27 (Value.agg #[Value.int IntKind.i64 a, Value.int IntKind.i64 b]); refine (HS1.out _).mono ?_; rintro e wq ⟨rfl, hg⟩; (replace GX := Lib.hid (GX.out.trans hg)); (obtain ⟨_, cx1, cy1, _⟩ := B1_12.out.keep GX.out); clear hg) | (go_at_call_of 27 (Value.agg #[Value.int IntKind.i64 c, Value.int IntKind.i64 d]); refine (HS2.out _).mono ?_; rintro e wq ⟨rfl, hg⟩; (replace GX := Lib.hid (GX.out.trans hg)); clear hg))
                go_meet
                exact ⟨rfl, GX.out⟩
            · obtain ⟨rfl, rfl⟩ := FS.out rfl rfl rfl
              cases z
              all_goals
                go_wp2_with (first | (go_at_call_of 27 (Value.agg #[Value.int IntKind.i64 a, Value.int IntKind.i64 b]); refine (HS1.out _).mono ?_; rintro e wq ⟨rfl, hg⟩; (replace GX := Lib.hid (GX.out.trans hg)); (obtain ⟨_, cx1, cy1, _⟩ := B1_12.out.keep GX.out); clear hg) | (go_at_call_of 27 (Value.agg #[Value.int IntKind.i64 c, Value.int IntKind.i64 d]); refine (HS2.out _).mono ?_; rintro e wq ⟨rfl, hg⟩; (replace GX := Lib.hid (GX.out.trans hg)); clear hg))
                go_meet
                exact ⟨rfl, GX.out⟩
      case rest =>
        obtain ⟨rfl, hG⟩ := hcut
        obtain ⟨wd, hw⟩ : ∃ wd, wd = wc := ⟨_, rfl⟩
        subst hw
        have T13 := Lib.hid (T12.out.trans (hG.below.mono T12.out.size))
        have B0_13 := Lib.hid (B0_12.out.keep hG)
        have B1_13 := Lib.hid (B1_12.out.keep hG)
        have B2_13 := Lib.hid (B2_12.out.keep hG)
        have B3_13 := Lib.hid (B3_12.out.keep hG)
        have B4_13 := Lib.hid (B4_12.out.keep hG)
        have B5_13 := Lib.hid (B5_12.out.keep hG)
        clear hG
        clear bs0 bx0 by0 bf0 be0 bs1 bx1 by1 bf1 be1 bs2 bx2 by2 bf2 be2 bs3 bx3 by3 bf3 be3 bs4 bx4 by4 bf4 be4 bs5 bx5 by5 bf5 be5
        obtain ⟨bs0, bx0, by0, bf0, be0⟩ := B0_13.out
        obtain ⟨bs1, bx1, by1, bf1, be1⟩ := B1_13.out
        obtain ⟨bs2, bx2, by2, bf2, be2⟩ := B2_13.out
        obtain ⟨bs3, bx3, by3, bf3, be3⟩ := B3_13.out
        obtain ⟨bs4, bx4, by4, bf4, be4⟩ := B4_13.out
        obtain ⟨bs5, bx5, by5, bf5, be5⟩ := B5_13.out
        clear HO HA HM HP HV1 HV2 HS1 HS2 FV FS FZ HL HVa HVb HVc HVd
        go_wp2_with fail
        refine (HX.out _).mono ?_
        rintro e14 w14 ⟨rfl, hg⟩
        have T14 := Lib.hid (T13.out.trans (hg.mono T13.out.size))
        have B0_14 := Lib.hid (B0_13.out.below hg)
        have B1_14 := Lib.hid (B1_13.out.below hg)
        have B2_14 := Lib.hid (B2_13.out.below hg)
        have B3_14 := Lib.hid (B3_13.out.below hg)
        have B4_14 := Lib.hid (B4_13.out.below hg)
        have B5_14 := Lib.hid (B5_13.out.below hg)
        clear hg
        clear bs0 bx0 by0 bf0 be0 bs1 bx1 by1 bf1 be1 bs2 bx2 by2 bf2 be2 bs3 bx3 by3 bf3 be3 bs4 bx4 by4 bf4 be4 bs5 bx5 by5 bf5 be5
        obtain ⟨bs0, bx0, by0, bf0, be0⟩ := B0_14.out
        obtain ⟨bs1, bx1, by1, bf1, be1⟩ := B1_14.out
        obtain ⟨bs2, bx2, by2, bf2, be2⟩ := B2_14.out
        obtain ⟨bs3, bx3, by3, bf3, be3⟩ := B3_14.out
        obtain ⟨bs4, bx4, by4, bf4, be4⟩ := B4_14.out
        obtain ⟨bs5, bx5, by5, bf5, be5⟩ := B5_14.out
        go_wp2_with fail
        have G15 : Gr w14 (w14.alloc (.cells #[.int .i64 xn, .int .i64 xd] 23)) := (Gr.one _ _)
        have T15 := Lib.hid (T14.out.trans (G15.below.mono T14.out.size))
        have B0_15 := Lib.hid (B0_14.out.keep G15)
        have B1_15 := Lib.hid (B1_14.out.keep G15)
        have B2_15 := Lib.hid (B2_14.out.keep G15)
        have B3_15 := Lib.hid (B3_14.out.keep G15)
        have B4_15 := Lib.hid (B4_14.out.keep G15)
        have B5_15 := Lib.hid (B5_14.out.keep G15)
        have B6_15 : Hid (Blk (w14.alloc (.cells #[.int .i64 xn, .int .i64 xd] 23)) (w14.heap.size) (.int .i64 xn) (.int .i64 xd)) := Lib.hid (Blk.at00 _ _ _ _)
        generalize hw15 : (w14.alloc (.cells #[.int .i64 xn, .int .i64 xd] 23)) = w15 at *
        clear hw15 G15
        clear bs0 bx0 by0 bf0 be0 bs1 bx1 by1 bf1 be1 bs2 bx2 by2 bf2 be2 bs3 bx3 by3 bf3 be3 bs4 bx4 by4 bf4 be4 bs5 bx5 by5 bf5 be5
        obtain ⟨bs0, bx0, by0, bf0, be0⟩ := B0_15.out
        obtain ⟨bs1, bx1, by1, bf1, be1⟩ := B1_15.out
        obtain ⟨bs2, bx2, by2, bf2, be2⟩ := B2_15.out
        obtain ⟨bs3, bx3, by3, bf3, be3⟩ := B3_15.out
        obtain ⟨bs4, bx4, by4, bf4, be4⟩ := B4_15.out
        obtain ⟨bs5, bx5, by5, bf5, be5⟩ := B5_15.out
        obtain ⟨bs6, bx6, by6, bf6, be6⟩ := B6_15.out
        refine (HY.out _).mono ?_
        rintro e16 w16 ⟨rfl, hg⟩
        have T16 := Lib.hid (T15.out.trans (hg.mono T15.out.size))
        have B0_16 := Lib.hid (B0_15.out.below hg)
        have B1_16 := Lib.hid (B1_15.out.below hg)
        have B2_16 := Lib.hid (B2_15.out.below hg)
        have B3_16 := Lib.hid (B3_15.out.below hg)
        have B4_16 := Lib.hid (B4_15.out.below hg)
        have B5_16 := Lib.hid (B5_15.out.below hg)
        have B6_16 := Lib.hid (B6_15.out.below hg)
        clear hg
        clear bs0 bx0 by0 bf0 be0 bs1 bx1 by1 bf1 be1 bs2 bx2 by2 bf2 be2 bs3 bx3 by3 bf3 be3 bs4 bx4 by4 bf4 be4 bs5 bx5 by5 bf5 be5 bs6 bx6 by6 bf6 be6
        obtain ⟨bs0, bx0, by0, bf0, be0⟩ := B0_16.out
        obtain ⟨bs1, bx1, by1, bf1, be1⟩ := B1_16.out
        obtain ⟨bs2, bx2, by2, bf2, be2⟩ := B2_16.out
        obtain ⟨bs3, bx3, by3, bf3, be3⟩ := B3_16.out
        obtain ⟨bs4, bx4, by4, bf4, be4⟩ := B4_16.out
        obtain ⟨bs5, bx5, by5, bf5, be5⟩ := B5_16.out
        obtain ⟨bs6, bx6, by6, bf6, be6⟩ := B6_16.out
        go_upto_region 15 with fail
        have G17 : Gr w16 (w16.alloc (.cells #[.int .i64 yn, .int .i64 yd] 23)) := (Gr.one _ _)
        have T17 := Lib.hid (T16.out.trans (G17.below.mono T16.out.size))
        have B0_17 := Lib.hid (B0_16.out.keep G17)
        have B1_17 := Lib.hid (B1_16.out.keep G17)
        have B2_17 := Lib.hid (B2_16.out.keep G17)
        have B3_17 := Lib.hid (B3_16.out.keep G17)
        have B4_17 := Lib.hid (B4_16.out.keep G17)
        have B5_17 := Lib.hid (B5_16.out.keep G17)
        have B6_17 := Lib.hid (B6_16.out.keep G17)
        have B7_17 : Hid (Blk (w16.alloc (.cells #[.int .i64 yn, .int .i64 yd] 23)) (w16.heap.size) (.int .i64 yn) (.int .i64 yd)) := Lib.hid (Blk.at00 _ _ _ _)
        generalize hw17 : (w16.alloc (.cells #[.int .i64 yn, .int .i64 yd] 23)) = w17 at *
        clear hw17 G17
        clear bs0 bx0 by0 bf0 be0 bs1 bx1 by1 bf1 be1 bs2 bx2 by2 bf2 be2 bs3 bx3 by3 bf3 be3 bs4 bx4 by4 bf4 be4 bs5 bx5 by5 bf5 be5 bs6 bx6 by6 bf6 be6
        obtain ⟨bs0, bx0, by0, bf0, be0⟩ := B0_17.out
        obtain ⟨bs1, bx1, by1, bf1, be1⟩ := B1_17.out
        obtain ⟨bs2, bx2, by2, bf2, be2⟩ := B2_17.out
        obtain ⟨bs3, bx3, by3, bf3, be3⟩ := B3_17.out
        obtain ⟨bs4, bx4, by4, bf4, be4⟩ := B4_17.out
        obtain ⟨bs5, bx5, by5, bf5, be5⟩ := B5_17.out
        obtain ⟨bs6, bx6, by6, bf6, be6⟩ := B6_17.out
        obtain ⟨bs7, bx7, by7, bf7, be7⟩ := B7_17.out
        by_cases ca : ae = 0
        · subst ca
          by_cases cx : xe = 0
          · subst cx
            by_cases cy : ye = 0
            · subst cy
              have KB := Lib.hid (HB.out rfl rfl rfl)
              clear HB
              go_wp2_with fail
              refine (KB.out _).mono ?_
              rintro e18 w18 ⟨rfl, hg⟩
              have T18 := Lib.hid (T17.out.trans (hg.mono T17.out.size))
              have B0_18 := Lib.hid (B0_17.out.below hg)
              have B1_18 := Lib.hid (B1_17.out.below hg)
              have B2_18 := Lib.hid (B2_17.out.below hg)
              have B3_18 := Lib.hid (B3_17.out.below hg)
              have B4_18 := Lib.hid (B4_17.out.below hg)
              have B5_18 := Lib.hid (B5_17.out.below hg)
              have B6_18 := Lib.hid (B6_17.out.below hg)
              have B7_18 := Lib.hid (B7_17.out.below hg)
              clear hg
              clear bs0 bx0 by0 bf0 be0 bs1 bx1 by1 bf1 be1 bs2 bx2 by2 bf2 be2 bs3 bx3 by3 bf3 be3 bs4 bx4 by4 bf4 be4 bs5 bx5 by5 bf5 be5 bs6 bx6 by6 bf6 be6 bs7 bx7 by7 bf7 be7
              obtain ⟨bs0, bx0, by0, bf0, be0⟩ := B0_18.out
              obtain ⟨bs1, bx1, by1, bf1, be1⟩ := B1_18.out
              obtain ⟨bs2, bx2, by2, bf2, be2⟩ := B2_18.out
              obtain ⟨bs3, bx3, by3, bf3, be3⟩ := B3_18.out
              obtain ⟨bs4, bx4, by4, bf4, be4⟩ := B4_18.out
              obtain ⟨bs5, bx5, by5, bf5, be5⟩ := B5_18.out
              obtain ⟨bs6, bx6, by6, bf6, be6⟩ := B6_18.out
              obtain ⟨bs7, bx7, by7, bf7, be7⟩ := B7_18.out
              go_wp2_with fail
              have G19 : Gr w18 (w18.alloc (.cells #[.int .i64 xn, .int .i64 xd] 23)) := (Gr.one _ _)
              have T19 := Lib.hid (T18.out.trans (G19.below.mono T18.out.size))
              have B0_19 := Lib.hid (B0_18.out.keep G19)
              have B1_19 := Lib.hid (B1_18.out.keep G19)
              have B2_19 := Lib.hid (B2_18.out.keep G19)
              have B3_19 := Lib.hid (B3_18.out.keep G19)
              have B4_19 := Lib.hid (B4_18.out.keep G19)
              have B5_19 := Lib.hid (B5_18.out.keep G19)
              have B6_19 := Lib.hid (B6_18.out.keep G19)
              have B7_19 := Lib.hid (B7_18.out.keep G19)
              have B8_19 : Hid (Blk (w18.alloc (.cells #[.int .i64 xn, .int .i64 xd] 23)) (w18.heap.size) (.int .i64 xn) (.int .i64 xd)) := Lib.hid (Blk.at00 _ _ _ _)
              generalize hw19 : (w18.alloc (.cells #[.int .i64 xn, .int .i64 xd] 23)) = w19 at *
              clear hw19 G19
              clear bs0 bx0 by0 bf0 be0 bs1 bx1 by1 bf1 be1 bs2 bx2 by2 bf2 be2 bs3 bx3 by3 bf3 be3 bs4 bx4 by4 bf4 be4 bs5 bx5 by5 bf5 be5 bs6 bx6 by6 bf6 be6 bs7 bx7 by7 bf7 be7
              obtain ⟨bs0, bx0, by0, bf0, be0⟩ := B0_19.out
              obtain ⟨bs1, bx1, by1, bf1, be1⟩ := B1_19.out
              obtain ⟨bs2, bx2, by2, bf2, be2⟩ := B2_19.out
              obtain ⟨bs3, bx3, by3, bf3, be3⟩ := B3_19.out
              obtain ⟨bs4, bx4, by4, bf4, be4⟩ := B4_19.out
              obtain ⟨bs5, bx5, by5, bf5, be5⟩ := B5_19.out
              obtain ⟨bs6, bx6, by6, bf6, be6⟩ := B6_19.out
              obtain ⟨bs7, bx7, by7, bf7, be7⟩ := B7_19.out
              obtain ⟨bs8, bx8, by8, bf8, be8⟩ := B8_19.out
              go_wp2_with fail
              go_ret
              exact ⟨rfl, T19.out⟩
            · have cy' : (ye != 0) = true := by simp [cy]
              go_wp2_with fail
              go_ret
              exact ⟨rfl, T17.out⟩
          · have cx' : (xe != 0) = true := by simp [cx]
            go_wp2_with fail
            go_ret
            exact ⟨rfl, T17.out⟩
        · have ca' : (ae != 0) = true := by simp [ca]
          go_wp2_with fail
          go_ret
          exact ⟨rfl, T17.out⟩
set_option maxRecDepth 100000 in
set_option maxHeartbeats 1000000 in
theorem results_long (a b c d m n : Int) (s : ByteArray) (w : World) (hs : 100 < s.size) (HL : Hid (Laid w)) : Calls Tryd.prog 8 #[.agg #[.int .i64 a, .int .i64 b], .agg #[.int .i64 c, .int .i64 d], .int .i64 m, .int .i64 n, .string s] w (Yes w) := by
  go_enter Tryd.func8, Tryd.ntmps8
  go_wp2_with fail
  have T0 := Lib.hid (Below.refl w.heap.size w)
  have G1 : Gr w ((w.alloc (.cells #[.int .i64 a, .int .i64 b] 23)).alloc (.cells #[.int .i64 c, .int .i64 d] 23)) := ((Gr.one _ _).alloc _)
  have T1 := Lib.hid (T0.out.trans (G1.below.mono T0.out.size))
  have B0_1 : Hid (Blk ((w.alloc (.cells #[.int .i64 a, .int .i64 b] 23)).alloc (.cells #[.int .i64 c, .int .i64 d] 23)) (w.heap.size) (.int .i64 a) (.int .i64 b)) := Lib.hid (Blk.at01 _ _ _ _ _)
  have B1_1 : Hid (Blk ((w.alloc (.cells #[.int .i64 a, .int .i64 b] 23)).alloc (.cells #[.int .i64 c, .int .i64 d] 23)) (w.heap.size + 1) (.int .i64 c) (.int .i64 d)) := Lib.hid (Blk.at10 _ _ _ _ _)
  generalize hw1 : ((w.alloc (.cells #[.int .i64 a, .int .i64 b] 23)).alloc (.cells #[.int .i64 c, .int .i64 d] 23)) = w1 at *
  clear hw1 G1
  obtain ⟨bs0, bx0, by0, bf0, be0⟩ := B0_1.out
  obtain ⟨bs1, bx1, by1, bf1, be1⟩ := B1_1.out
  refine (head_any _ (HL.out.keep T1.out)).mono ?_
  rintro e2 w2 ⟨rfl, hg⟩
  have T2 := Lib.hid (T1.out.trans (hg.mono T1.out.size))
  have B0_2 := Lib.hid (B0_1.out.below hg)
  have B1_2 := Lib.hid (B1_1.out.below hg)
  clear hg
  clear bs0 bx0 by0 bf0 be0 bs1 bx1 by1 bf1 be1
  obtain ⟨bs0, bx0, by0, bf0, be0⟩ := B0_2.out
  obtain ⟨bs1, bx1, by1, bf1, be1⟩ := B1_2.out
  go_wp2_with fail
  go_ret
  exact ⟨rfl, T2.out⟩
/-- what Of, Add, Mul and Parse return -/
theorem vld_call {x y : Int} (h : vld x y = true) (W : World) : Calls Tryd.prog 16 #[.agg #[.int .i64 x, .int .i64 y]] W fun e w' => e = .returned (.bool true) ∧ Gr W w' := by
  obtain ⟨_, _, _, _⟩ := vld_iff.1 h
  exact valid_at h W (by omega) (by omega) (by omega) (by omega)
theorem of_res (m n : Int) (m0 : -9223372036854775808 ≤ m) (m1 : m ≤ 9223372036854775807) (n0 : -9223372036854775808 ≤ n) (n1 : n ≤ 9223372036854775807) :
    ∃ x y e : Int, (∀ W, Calls Tryd.prog 10 #[.int .i64 m, .int .i64 n] W fun r w' => r = .returned (.tuple #[.agg #[.int .i64 x, .int .i64 y], .int .i64 e]) ∧ Below W.heap.size W w') ∧ (e = 0 → vld x y = true ∧ n ≠ 0 ∧ rat x y = Rat.divInt m n) ∧ ((e == 14) = (n == 0)) := by
  by_cases hn : n = 0
  · subst hn
    exact ⟨0, 0, 14, fun W => (of_zero m W).mono fun _ _ ⟨h, g⟩ => ⟨h, g.below⟩, fun h => absurd h (by decide), rfl⟩
  · refine ⟨_, _, _, fun W => of_at W m0 m1 n0 n1 hn rfl rfl rfl, fun h => ⟨res_vld _ h, hn, res_rat _ h⟩, ?_⟩
    rw [show (n == 0) = false by simp [hn]]
    rcases res_err (Rat.divInt m n) with e | e <;> rw [e] <;> rfl
theorem results_walk (a b c d m n : Int) (s : ByteArray) (w : World) (hL : Laid w) (h0 : -9223372036854775808 ≤ a) (h1 : a ≤ 9223372036854775807) (h2 : -9223372036854775808 ≤ b) (h3 : b ≤ 9223372036854775807) (h4 : -9223372036854775808 ≤ c) (h5 : c ≤ 9223372036854775807) (h6 : -9223372036854775808 ≤ d) (h7 : d ≤ 9223372036854775807) (m0 : -9223372036854775808 ≤ m) (m1 : m ≤ 9223372036854775807) (n0 : -9223372036854775808 ≤ n) (n1 : n ≤ 9223372036854775807) : Calls Tryd.prog 8 #[.agg #[.int .i64 a, .int .i64 b], .agg #[.int .i64 c, .int .i64 d], .int .i64 m, .int .i64 n, .string s] w (Yes w) := by
  by_cases hs : s.size ≤ 100
  · obtain ⟨an, ad, ae, HO, hO, FZ⟩ := of_res m n m0 m1 n0 n1
    obtain ⟨xn, xd, xe, HX, hX, _⟩ := of_res m 1 m0 m1 (by decide) (by decide)
    obtain ⟨yn, yd, ye, HY, hY, _⟩ := of_res n 1 n0 n1 (by decide) (by decide)
    have HB : ae = 0 → xe = 0 → ye = 0 → ∀ W, Calls Tryd.prog 14 #[.agg #[.int .i64 an, .int .i64 ad], .agg #[.int .i64 yn, .int .i64 yd]] W fun e w' => e = .returned (.tuple #[.agg #[.int .i64 xn, .int .i64 xd], .int .i64 0]) ∧ Below W.heap.size W w' := by
      intro e1 e2 e3 W
      obtain ⟨va, hn, ra⟩ := hO e1
      obtain ⟨vx, _, rx⟩ := hX e2
      obtain ⟨vy, _, ry⟩ := hY e3
      have hq : rat an ad * rat yn yd = rat xn xd := by rw [ra, ry, rx]; exact quo_back m n hn
      obtain ⟨q1, q2, q3⟩ := r_vld vx
      exact mul_at W va vy (by rw [hq]; exact q1) (by rw [hq]; exact q2) (by rw [hq]; exact q3)
    obtain ⟨dn, dd, de, HP, hP⟩ : ∃ x y e : Int, (∀ W, Laid W → Calls Tryd.prog 24 #[.string s] W fun r w' => r = .returned (.tuple #[.agg #[.int .i64 x, .int .i64 y], .int .i64 e]) ∧ Below W.heap.size W w') ∧ (e = 0 → vld x y = true) := by
      by_cases hx : ∃ p q, vld p q = true ∧ txt p q = s.data.toList
      · obtain ⟨p, q, v5, ht5⟩ := hx
        exact ⟨p, q, 0, fun W hL => parse_yes p q s W hL hs v5 ht5, fun _ => v5⟩
      · exact ⟨0, 0, 5, fun W hL => parse_no s W hL hs (fun p q x y => hx ⟨p, q, x, y⟩), fun h => absurd h (by decide)⟩
    have V1 := Lib.hid (fun W => valid_any a b W h0 h1 h2 h3)
    have V2 := Lib.hid (fun W => valid_any c d W h4 h5 h6 h7)
    have S1 := Lib.hid (fun W => small_any a b W)
    have S2 := Lib.hid (fun W => small_any c d W)
    cases hv : (vld a b && vld c d)
    · exact results_way a b c d m n an ad ae 0 0 1 0 0 1 dn dd de xn xd xe yn yd ye _ _ _ _ s w hs (Lib.hid hL) (Lib.hid HO) (Lib.hid (fun W => add_no a b c d W h0 h1 h2 h3 h4 h5 h6 h7 hv)) (Lib.hid (fun W => mul_no a b c d W h0 h1 h2 h3 h4 h5 h6 h7 hv)) (Lib.hid HP)
        (Lib.hid (fun e => vld_call (hO e).1)) (Lib.hid (fun e => absurd e (by decide))) (Lib.hid (fun e => absurd e (by decide))) (Lib.hid (fun e => vld_call (hP e))) V1 V2 S1 S2 (Lib.hid HX) (Lib.hid HY) (Lib.hid HB) (Lib.hid (fun _ => ⟨rfl, rfl⟩)) (Lib.hid (fun e => absurd (hv.symm.trans e) (by decide))) (Lib.hid FZ)
    · have hv' := hv
      simp only [Bool.and_eq_true] at hv'
      obtain ⟨v1, v2⟩ := hv'
      refine results_way a b c d m n an ad ae _ _ _ _ _ _ dn dd de xn xd xe yn yd ye _ _ _ _ s w hs (Lib.hid hL) (Lib.hid HO) (Lib.hid (fun W => add_at W v1 v2 rfl rfl rfl)) (Lib.hid (fun W => mul_at W v1 v2 rfl rfl rfl)) (Lib.hid HP)
        (Lib.hid (fun e => vld_call (hO e).1)) (Lib.hid (fun e => vld_call (res_vld _ e))) (Lib.hid (fun e => vld_call (res_vld _ e))) (Lib.hid (fun e => vld_call (hP e))) V1 V2 S1 S2 (Lib.hid HX) (Lib.hid HY) (Lib.hid HB) (Lib.hid (fun e => absurd (hv.symm.trans e) (by decide))) (Lib.hid (fun _ t1 t2 => ?_)) (Lib.hid FZ)
      unfold sml at t1 t2
      rw [decide_eq_true_iff] at t1 t2
      obtain ⟨f1, f2⟩ := small_fit v1 v2 (by omega) (by omega) (by omega) (by omega)
      exact ⟨(r_yes f1).2.2, (r_yes f2).2.2⟩
  · exact results_long a b c d m n s w (by omega) (Lib.hid hL)
end Go.Proofs.YtdmddfhjfkdlnaaDoor
