/- The contract of Add where both are valid. Under no condition but the types' own ranges. -/
import Derived.Test.YtdmddfhjfkdlnaaDoorGa
import Derived.Test.YtdmddfhjfkdlnaaDoorPa
namespace Go.Proofs.YtdmddfhjfkdlnaaDoor
open Go.RowKit

set_option maxRecDepth 100000 in
set_option maxHeartbeats 40000000 in
theorem add_some (a b c d : Int) (w : World) (hv : vld a b = true) (hv' : vld c d = true) (h0 : -9223372036854775808 ≤ a) (h1 : a ≤ 9223372036854775807) (k0 : -9223372036854775808 ≤ b) (k1 : b ≤ 9223372036854775807)
    (h2 : -9223372036854775808 ≤ c) (h3 : c ≤ 9223372036854775807) (k2 : -9223372036854775808 ≤ d) (k3 : d ≤ 9223372036854775807) (S : Int) (hS : S = a * ((d.natAbs / Nat.gcd b.natAbs d.natAbs : Nat) : Int) + c * ((b.natAbs / Nat.gcd b.natAbs d.natAbs : Nat) : Int)) :
    Calls Tryd.prog 12 #[.agg #[.int .i64 a, .int .i64 b], .agg #[.int .i64 c, .int .i64 d]] w fun e w' => e = .returned (fr (rat a b + rat c d)) ∧ Below w.heap.size w w' := by
  have HV1 := Lib.hid (fun W => valid_at hv W h0 h1 k0 k1)
  have F := add_fin a b c d S hv hv' hS
  have Z := add_zero a b c d S hv hv' hS
  have SG := add_signs a c _ _ S hS
  have HV2 := Lib.hid (fun W => valid_at hv' W h2 h3 k2 k3)
  obtain ⟨hb, _, _, _⟩ := vld_iff.1 hv
  obtain ⟨hd, _, _, _⟩ := vld_iff.1 hv'
  have S1 := Lib.hid (fun W => size_any a W h0 h1)
  have S2 := Lib.hid (fun W => size_any b W k0 k1)
  have S3 := Lib.hid (fun W => size_any c W h2 h3)
  have S4 := Lib.hid (fun W => size_any d W k2 k3)
  have hg : 0 < Nat.gcd b.natAbs d.natAbs := Nat.gcd_pos_of_pos_right _ (by omega)
  have G1 := Lib.hid (fun W => divisor_gr b.natAbs d.natAbs W (by omega) (by omega))
  obtain ⟨q1, r1⟩ := quo_fact d.natAbs (Nat.gcd b.natAbs d.natAbs) (by omega)
  obtain ⟨q2, r2⟩ := quo_fact b.natAbs (Nat.gcd b.natAbs d.natAbs) (by omega)
  obtain ⟨q3, r3⟩ := quo_fact d.natAbs (Nat.gcd S.natAbs (Nat.gcd b.natAbs d.natAbs)) (by omega)
  have l3 := Nat.div_le_self d.natAbs (Nat.gcd S.natAbs (Nat.gcd b.natAbs d.natAbs))
  have hxp : 0 < Nat.gcd S.natAbs (Nat.gcd b.natAbs d.natAbs) := Nat.gcd_pos_of_pos_right _ hg
  have hxl : Nat.gcd S.natAbs (Nat.gcd b.natAbs d.natAbs) ≤ Nat.gcd b.natAbs d.natAbs := Nat.le_of_dvd hg (Nat.gcd_dvd_right _ _)
  have hgl : Nat.gcd b.natAbs d.natAbs ≤ b.natAbs := Nat.le_of_dvd (by omega) (Nat.gcd_dvd_left _ _)
  have l1 := Nat.div_le_self d.natAbs (Nat.gcd b.natAbs d.natAbs)
  have l2 := Nat.div_le_self b.natAbs (Nat.gcd b.natAbs d.natAbs)
  have hs1 : a.natAbs * (d.natAbs / Nat.gcd b.natAbs d.natAbs) ≤ 4611686018427387904 * 4611686018427387904 := Nat.mul_le_mul (by omega) (by omega)
  have hs2 : c.natAbs * (b.natAbs / Nat.gcd b.natAbs d.natAbs) ≤ 4611686018427387904 * 4611686018427387904 := Nat.mul_le_mul (by omega) (by omega)
  generalize d.natAbs / Nat.gcd S.natAbs (Nat.gcd b.natAbs d.natAbs) = p3 at *
  generalize d.natAbs / Nat.gcd b.natAbs d.natAbs = p1 at *
  generalize b.natAbs / Nat.gcd b.natAbs d.natAbs = p2 at *
  have RM := fun W => rem64 S.natAbs (Nat.gcd b.natAbs d.natAbs) W (by omega) hg
  have G2 := fun W => divisor_gr (S.natAbs % Nat.gcd b.natAbs d.natAbs) (Nat.gcd b.natAbs d.natAbs) W (by have := Nat.mod_lt S.natAbs hg; omega) (by omega)
  rw [gcd_mod_gcd] at G2
  have O1 := fun W => over_any S.natAbs (Nat.gcd S.natAbs (Nat.gcd b.natAbs d.natAbs)) W (by omega)
  have O2 := fun W => over_any (p2 * p3) 1 W (by decide)
  have T3 := fun W => times_any p2 p3 W (by omega) (by omega)
  have M := fun (neg : Bool) (hn : neg = decide (S < 0)) W => made_any neg (ov S.natAbs (Nat.gcd S.natAbs (Nat.gcd b.natAbs d.natAbs))) (ov (p2 * p3) 1) W (ov_lt _ _) (ov_lt _ _)
  have M' : ∀ (neg : Bool) (hn : neg = decide (S < 0)) W, Calls Tryd.prog 30 #[.bool neg, .int .u64 ((ov S.natAbs (Nat.gcd S.natAbs (Nat.gcd b.natAbs d.natAbs)) : Nat) : Int), .int .u64 ((ov (p2 * p3) 1 : Nat) : Int)] W fun e w' => e = .returned (.tuple #[.agg #[.int .i64 (rN (rat a b + rat c d)), .int .i64 (rD (rat a b + rat c d))], .int .i64 (rE (rat a b + rat c d))]) ∧ Gr W w' := by
    intro neg hn W
    have := M neg hn W
    rw [hn] at this ⊢
    rwa [F.1, F.2.1, F.2.2] at this
  clear M F
  have T1 := fun W => times_any a.natAbs p1 W (by omega) (by omega)
  have T2 := fun W => times_any c.natAbs p2 W (by omega) (by omega)
  have PL := fun W => plus_any (a.natAbs * p1) (c.natAbs * p2) W (by omega) (by omega)
  have LS := fun W => less_any (a.natAbs * p1) (c.natAbs * p2) W
  have MN1 := fun h W => minus_any (c.natAbs * p2) (a.natAbs * p1) W (by omega) h
  have MN2 := fun h W => minus_any (a.natAbs * p1) (c.natAbs * p2) W (by omega) h
  unfold wd at T1 T2 T3 PL LS MN1 MN2 O1 O2
  have hSb : S.natAbs < 340282366920938463463374607431768211456 := by
    by_cases e : decide (a < 0) = decide (c < 0)
    · rw [(SG.1 e).1]; omega
    · by_cases e' : a.natAbs * p1 < c.natAbs * p2
      · rw [((SG.2 e).1 e').1]; omega
      · rw [((SG.2 e).2 e').1]; omega
  have hzero : S.natAbs = 0 ↔ (S.natAbs / 18446744073709551616 = 0 ∧ S.natAbs % 18446744073709551616 = 0) := by omega
  have hz0 : S.natAbs = 0 ↔ S = 0 := by omega
  have D1 : decide (a < 0) = decide (c < 0) → (a.natAbs * p1 + c.natAbs * p2) / 18446744073709551616 = S.natAbs / 18446744073709551616 ∧ (a.natAbs * p1 + c.natAbs * p2) % 18446744073709551616 = S.natAbs % 18446744073709551616 ∧ (S ≠ 0 → decide (a < 0) = decide (S < 0)) := fun e => by
    obtain ⟨x, y⟩ := SG.1 e; rw [x]; exact ⟨rfl, rfl, fun z => (y z).symm⟩
  have D2 : decide (a < 0) ≠ decide (c < 0) → a.natAbs * p1 < c.natAbs * p2 → (c.natAbs * p2 - a.natAbs * p1) / 18446744073709551616 = S.natAbs / 18446744073709551616 ∧ (c.natAbs * p2 - a.natAbs * p1) % 18446744073709551616 = S.natAbs % 18446744073709551616 ∧ (S ≠ 0 → (!decide (a < 0)) = decide (S < 0)) := fun e e' => by
    obtain ⟨x, y⟩ := (SG.2 e).1 e'; rw [x]; exact ⟨rfl, rfl, fun z => (y z).symm⟩
  have D3 : decide (a < 0) ≠ decide (c < 0) → ¬ a.natAbs * p1 < c.natAbs * p2 → (a.natAbs * p1 - c.natAbs * p2) / 18446744073709551616 = S.natAbs / 18446744073709551616 ∧ (a.natAbs * p1 - c.natAbs * p2) % 18446744073709551616 = S.natAbs % 18446744073709551616 ∧ (S ≠ 0 → decide (a < 0) = decide (S < 0)) := fun e e' => by
    obtain ⟨x, y⟩ := (SG.2 e).2 e'; rw [x]; exact ⟨rfl, rfl, fun z => (y z).symm⟩
  obtain ⟨lt, hlt⟩ : ∃ lt, decide (a.natAbs * p1 < c.natAbs * p2) = lt := ⟨_, rfl⟩
  rw [hlt] at LS
  have ht : lt = true → a.natAbs * p1 < c.natAbs * p2 := fun e => of_decide_eq_true (hlt.trans e)
  have hf : lt = false → ¬ a.natAbs * p1 < c.natAbs * p2 := fun e => of_decide_eq_false (hlt.trans e)
  replace MN1 := fun (h : lt = true) => MN1 (by have := ht h; omega)
  replace MN2 := fun (h : lt = false) => MN2 (by have := hf h; omega)
  replace D2 := fun e (h : lt = true) => D2 e (ht h)
  replace D3 := fun e (h : lt = false) => D3 e (hf h)
  clear SG hS hs1 hs2 hSb hlt ht hf
  generalize (a.natAbs * p1 + c.natAbs * p2) / 18446744073709551616 = j1 at *
  generalize (a.natAbs * p1 + c.natAbs * p2) % 18446744073709551616 = j2 at *
  generalize (c.natAbs * p2 - a.natAbs * p1) / 18446744073709551616 = j3 at *
  generalize (c.natAbs * p2 - a.natAbs * p1) % 18446744073709551616 = j4 at *
  generalize (a.natAbs * p1 - c.natAbs * p2) / 18446744073709551616 = j5 at *
  generalize (a.natAbs * p1 - c.natAbs * p2) % 18446744073709551616 = j6 at *
  generalize a.natAbs * p1 / 18446744073709551616 = i1 at *
  generalize a.natAbs * p1 % 18446744073709551616 = i2 at *
  generalize c.natAbs * p2 / 18446744073709551616 = i3 at *
  generalize c.natAbs * p2 % 18446744073709551616 = i4 at *
  generalize ov (p2 * p3) 1 = v2 at *
  generalize p2 * p3 / 18446744073709551616 = i5 at *
  generalize p2 * p3 % 18446744073709551616 = i6 at *
  generalize ov S.natAbs (Nat.gcd S.natAbs (Nat.gcd b.natAbs d.natAbs)) = v1 at *
  generalize S.natAbs % Nat.gcd b.natAbs d.natAbs = rm at *
  generalize Nat.gcd S.natAbs (Nat.gcd b.natAbs d.natAbs) = x at *
  generalize S.natAbs / 18446744073709551616 = j7 at *
  generalize S.natAbs % 18446744073709551616 = j8 at *
  generalize Nat.gcd b.natAbs d.natAbs = g at *
  unfold fr
  have ZV : S = 0 → rN (rat a b + rat c d) = 0 ∧ rD (rat a b + rat c d) = 1 ∧ rE (rat a b + rat c d) = 0 := fun h => by
    rw [Z h]; exact r_yes (r := 0) (by decide +kernel)
  clear Z hv hv'
  generalize rN (rat a b + rat c d) = RN at *
  generalize rD (rat a b + rat c d) = RD at *
  generalize rE (rat a b + rat c d) = RE at *
  generalize a.natAbs = na at *
  generalize b.natAbs = nb at *
  generalize c.natAbs = nc at *
  generalize d.natAbs = nd at *
  have HZV := Lib.hid ZV
  have HD1 := Lib.hid D1
  have HD2 := Lib.hid D2
  have HD3 := Lib.hid D3
  have HPL := Lib.hid PL
  have HLS := Lib.hid LS
  have HMN1 := Lib.hid MN1
  have HMN2 := Lib.hid MN2
  have HRM := Lib.hid RM
  have HG2 := Lib.hid G2
  have HO1 := Lib.hid O1
  have HO2 := Lib.hid O2
  have HT3 := Lib.hid T3
  have HM := Lib.hid M'
  have HZ1 := Lib.hid hzero
  have HZ2 := Lib.hid hz0
  have z3 : ¬ x = 0 := by omega
  have z4 : ¬ (x : Int) = 0 := by omega
  have z6 : ((x : Int) == 0) = false := by simp; omega
  clear ZV D1 D2 D3 PL LS MN1 MN2 RM G2 O1 O2 T3 M' hzero hz0 l1 l2 l3 hxp hxl hgl
  have HT1 := Lib.hid T1
  have HT2 := Lib.hid T2
  have z1 : ¬ g = 0 := by omega
  have z2 : ¬ (g : Int) = 0 := by omega
  have z5 : ((g : Int) == 0) = false := by simp; omega
  clear T1 T2
  go_enter Tryd.func12, Tryd.ntmps12
  go_wp2_with fail
  have B0 := Lib.hid (Three.made w (.int .i64 a) (.int .i64 b) (.int .i64 c) (.int .i64 d))
  have GW := Lib.hid (((Gr.one w (.cells #[.int .i64 a, .int .i64 b] 23)).alloc (.cells #[.int .i64 c, .int .i64 d] 23)).alloc (.cells #[.int .i64 0, .int .i64 0] 23))
  generalize ((w.alloc (.cells #[.int .i64 a, .int .i64 b] 23)).alloc (.cells #[.int .i64 c, .int .i64 d] 23)).alloc (.cells #[.int .i64 0, .int .i64 0] 23) = W at *
  refine (HV1.out _).mono ?_
  rintro e w1 ⟨rfl, hg⟩
  have B1 := Lib.hid (B0.out.keep hg)
  obtain ⟨⟨s1, x1, y1, f1, e1⟩, ⟨s2, x2, y2, f2, e2⟩, ⟨s3, x3, y3, f3, e3⟩⟩ := B0.out.keep hg
  have GW1 := Lib.hid (GW.out.trans hg)
  clear B0 GW hg
  go_wp2_with fail
  refine (HV2.out _).mono ?_
  rintro e w2 ⟨rfl, hg⟩
  clear s1 x1 y1 f1 e1 s2 x2 y2 f2 e2 s3 x3 y3 f3 e3
  have B2 := Lib.hid (B1.out.keep hg)
  obtain ⟨⟨s1, x1, y1, f1, e1⟩, ⟨s2, x2, y2, f2, e2⟩, ⟨s3, x3, y3, f3, e3⟩⟩ := B1.out.keep hg
  have GW2 := Lib.hid (GW1.out.trans hg)
  clear B1 GW1 hg
  go_wp2_with fail
  go_quiet ((first | (go_at_call_of 29 (Value.int IntKind.i64 b); exact Calls.quiet_of_same ((S2.out _).mono fun _ _ ⟨h, k⟩ => ⟨h, k.symm⟩)) | (go_at_call_of 29 (Value.int IntKind.i64 d); exact Calls.quiet_of_same ((S4.out _).mono fun _ _ ⟨h, k⟩ => ⟨h, k.symm⟩))))
  go_wp2_with fail
  have B3 := Lib.hid (B2.out.keep (Gr.drewN _ nq))
  have GW3 := Lib.hid (GW2.out.trans (Gr.drewN _ nq))
  clear s1 x1 y1 f1 e1 s2 x2 y2 f2 e2 s3 x3 y3 f3 e3 B2 GW2
  generalize w2.drewN nq = w3 at *
  refine (G1.out _).mono ?_
  rintro e w4 ⟨rfl, hg⟩
  have B4 := Lib.hid (B3.out.keep hg)
  have GW4 := Lib.hid (GW3.out.trans hg)
  obtain ⟨⟨s1, x1, y1, f1, e1⟩, ⟨s2, x2, y2, f2, e2⟩, ⟨s3, x3, y3, f3, e3⟩⟩ := B3.out.keep hg
  clear hg B3 GW3
  go_upto_region 5 with fail
  go_cut [9, 10] (fun s9 s10 wx => Two w4.heap.size w4 (.int .u64 i1) (.int .u64 i2) (.int .u64 i3) (.int .u64 i4) s9 s10 wx)
  case first =>
    clear HZV HD1 HD2 HD3 HPL HLS HMN1 HMN2 HRM HG2 HO1 HO2 HT3 HM HZ1 HZ2 z3 z4 z6 q3 r3 h0 h1 h2 h3 k0 k1 k2 k3 hb hd S2 S4 G1 HV1 HV2
    go_region_held3 (fun w' => w'.cell? ⟨w.heap.size, 0, none⟩ = some (.int .i64 a) ∧ w'.cell? ⟨w.heap.size + 1, 0, none⟩ = some (.int .i64 c)) (first | (go_keep; done) | ((try dsimp only); refine ⟨?_, ?_⟩ <;> first | (simp [*]; done) | (rw [World.cell?_setCell_other _ _ _ _ (by intro e; injection e with e1 e2; omega), World.cell?_setCell_other _ _ _ _ (by intro e; injection e with e1 e2; omega)]; simp [*]; done) | ((repeat (first | refine Lib.cell?_alloc_some _ ?_ | (rw [World.cell?_setCell_other _ _ _ _ (by intro e; injection e with e1 e2; omega)]))); simp [*]; done)))
      (first
        | (go_at_call_of 29 (Value.int IntKind.i64 a); refine (S1.out _).mono ?_; rintro e w5 ⟨rfl, rfl⟩)
        | (go_at_call_of 29 (Value.int IntKind.i64 c); refine (S3.out _).mono ?_; rintro e w5 ⟨rfl, rfl⟩)
        | (go_at_call_of 33 (Value.int IntKind.u64 (na : Int)); refine (HT1.out _).mono ?_; rintro e w6 ⟨rfl, hg6⟩; (have x61 := hg6.cell (b := w.heap.size) (o := 0) (v := .int .i64 a) (by (try simp); omega) (by simp [*])); (have x62 := hg6.cell (b := w.heap.size + 1) (o := 0) (v := .int .i64 c) (by (try simp); omega) (by simp [*])); (have z6 := hg6.size); (try simp at z6); (try (refine Blk.use (w := w6) (b := w4.heap.size) (x := .int .u64 0) (y := .int .u64 0) ?_ ?_; (focus (refine Blk.keep ?_ hg6; first | (refine ⟨?_, ?_, ?_, ?_, ?_⟩ <;> first | (simp [*]; done) | omega | (simp; omega) | exact World.frozen?_alloc_at _ _ _ _ (by simp)))); (intro T60 l60 m60 n60 o60 p60))); (try (refine Blk.use (w := w6) (b := w4.heap.size + 1) (x := .int .u64 0) (y := .int .u64 0) ?_ ?_; (focus (refine Blk.keep ?_ hg6; first | (refine ⟨?_, ?_, ?_, ?_, ?_⟩ <;> first | (simp [*]; done) | omega | (simp; omega) | exact World.frozen?_alloc_at _ _ _ _ (by simp)))); (intro T61 l61 m61 n61 o61 p61))); (have HG6 := Lib.hid hg6); clear hg6)
        | (go_at_call_of 33 (Value.int IntKind.u64 (nc : Int)); refine (HT2.out _).mono ?_; rintro e w7 ⟨rfl, hg7⟩; (have x71 := hg7.cell (b := w.heap.size) (o := 0) (v := .int .i64 a) (by (try simp); omega) (by simp [*])); (have x72 := hg7.cell (b := w.heap.size + 1) (o := 0) (v := .int .i64 c) (by (try simp); omega) (by simp [*])); (have z7 := hg7.size); (try simp at z7); (try (refine Blk.use (w := w7) (b := w4.heap.size) (x := .int .u64 0) (y := .int .u64 0) ?_ ?_; (focus (refine Blk.keep ?_ hg7; first | exact T60.out | exact T60.out.keep (Gr.one _ _) | exact T60.out.keep ((Gr.one _ _).alloc _) | (refine ⟨?_, ?_, ?_, ?_, ?_⟩ <;> first | (simp [*]; done) | omega | (simp; omega) | exact World.frozen?_alloc_at _ _ _ _ (by simp)))); (intro T70 l70 m70 n70 o70 p70))); (try (refine Blk.use (w := w7) (b := w4.heap.size + 1) (x := .int .u64 0) (y := .int .u64 0) ?_ ?_; (focus (refine Blk.keep ?_ hg7; first | exact T61.out | exact T61.out.keep (Gr.one _ _) | exact T61.out.keep ((Gr.one _ _).alloc _) | (refine ⟨?_, ?_, ?_, ?_, ?_⟩ <;> first | (simp [*]; done) | omega | (simp; omega) | exact World.frozen?_alloc_at _ _ _ _ (by simp)))); (intro T71 l71 m71 n71 o71 p71))); (try (refine Blk.use (w := w7) (b := w6.heap.size) (x := .int .u64 0) (y := .int .u64 0) ?_ ?_; (focus (refine Blk.keep ?_ hg7; first | (refine ⟨?_, ?_, ?_, ?_, ?_⟩ <;> first | (simp [*]; done) | omega | (simp; omega) | exact World.frozen?_alloc_at _ _ _ _ (by simp)))); (intro T72 l72 m72 n72 o72 p72))); (try (refine Blk.use (w := w7) (b := w6.heap.size + 1) (x := .int .u64 0) (y := .int .u64 0) ?_ ?_; (focus (refine Blk.keep ?_ hg7; first | (refine ⟨?_, ?_, ?_, ?_, ?_⟩ <;> first | (simp [*]; done) | omega | (simp; omega) | exact World.frozen?_alloc_at _ _ _ _ (by simp)))); (intro T73 l73 m73 n73 o73 p73))); (have HG7 := Lib.hid hg7); clear hg7))
    all_goals
      (go_wp2_with fail
       go_meet
       have h6 : Gr w4 w6 := by
         first
           | with_reducible exact Gr.g1 HG6.out
           | with_reducible exact Gr.g2 HG6.out
           | with_reducible exact Gr.g3 HG6.out
           | exact Gr.g1 HG6.out
           | exact Gr.g2 HG6.out
           | exact Gr.g3 HG6.out
       have hG : Gr w4 w7 := by
         first
           | with_reducible exact h6.trans HG7.out
           | with_reducible exact h6.trans (Gr.u2 HG7.out)
           | with_reducible exact h6.trans (Gr.u3 HG7.out)
       first
         | with_reducible exact Two.nn hG
         | with_reducible exact Two.nn' hG
         | with_reducible exact Two.on hG T70.out (Nat.le_refl _)
         | with_reducible exact Two.no hG T70.out (Nat.le_refl _)
         | with_reducible exact Two.on hG T72.out h6.size
         | with_reducible exact Two.no hG T72.out h6.size
         | with_reducible exact Two.oo hG T70.out T71.out (Nat.le_refl _) (Nat.le_succ _) (Nat.ne_of_lt (Nat.lt_succ_self _))
         | with_reducible exact Two.oo hG T71.out T70.out (Nat.le_succ _) (Nat.le_refl _) (Nat.ne_of_gt (Nat.lt_succ_self _))
         | with_reducible exact Two.oo hG T70.out T72.out (Nat.le_refl _) h6.size (Nat.ne_of_lt (Blk.lt T60.out))
         | with_reducible exact Two.oo hG T72.out T70.out h6.size (Nat.le_refl _) (Nat.ne_of_gt (Blk.lt T60.out))
         | with_reducible exact Two.oo hG T72.out T73.out h6.size (Nat.le_succ_of_le h6.size) (Nat.ne_of_lt (Nat.lt_succ_self _))
         | with_reducible exact Two.oo hG T73.out T72.out (Nat.le_succ_of_le h6.size) h6.size (Nat.ne_of_gt (Nat.lt_succ_self _)))
  case rest =>
    obtain ⟨g1, g2, rfl, rfl, hb1, hb2, hne, K1, K2, hB⟩ := hcut
    have TH : Three wc w.heap.size (.int .i64 a) (.int .i64 b) (.int .i64 c) (.int .i64 d) := ⟨B4.out.1.below hB, B4.out.2.1.below hB, B4.out.2.2.below hB⟩
    have hB0 : Below w.heap.size w wc := GW4.out.below.trans (hB.mono GW4.out.size)
    clear s1 x1 y1 f1 e1 s2 x2 y2 f2 e2 s3 x3 y3 f3 e3
    have hz4 := GW4.out.size
    have hz5 := hB.size
    have THH := Lib.hid TH
    have KH1 := Lib.hid K1
    have KH2 := Lib.hid K2
    have HB0 := Lib.hid hB0
    obtain ⟨⟨s1, x1, y1, f1, e1⟩, ⟨s2, x2, y2, f2, e2⟩, ⟨s3, x3, y3, f3, e3⟩⟩ := TH
    obtain ⟨s4, x4, y4, f4, e4⟩ := K1
    obtain ⟨s5, x5, y5, f5, e5⟩ := K2
    clear hB hB0 GW4 B4 S1 S2 S3 S4 G1 HT1 HT2 HV1 HV2
    obtain ⟨wb, hwb⟩ : ∃ wb, wb = wc := ⟨_, rfl⟩
    subst hwb
    go_upto_region 6 with fail
    go_cut [11, 12] (fun s11 s12 wx => s12 = .bool (decide (a < 0)) ∧ ∃ g3, s11 = .pointer (some ⟨g3, 0, none⟩) ∧ wb.heap.size ≤ g3 ∧ Blk wx g3 (.int .u64 j1) (.int .u64 j2) ∧ Below wb.heap.size wb wx)
    case first =>
      go_region_held3 (fun w' => w'.cell? ⟨w.heap.size, 0, none⟩ = some (.int .i64 a) ∧ w'.cell? ⟨g1, 0, none⟩ = some (.int .u64 i1) ∧ w'.cell? ⟨g1, 1, none⟩ = some (.int .u64 i2) ∧ w'.cell? ⟨g2, 0, none⟩ = some (.int .u64 i3) ∧ w'.cell? ⟨g2, 1, none⟩ = some (.int .u64 i4)) (first | (go_keep; done) | ((try dsimp only); refine ⟨?_, ?_, ?_, ?_, ?_⟩ <;> first | (simp [*]; done) | ((repeat (first | refine Lib.cell?_alloc_some _ ?_ | (rw [World.cell?_setCell_other _ _ _ _ (by intro e; injection e with e1 e2; omega)]))); simp [*]; done)))
        (first
          | (go_at_call 34; refine (HPL.out _).mono ?_; rintro e w6 ⟨rfl, hg6⟩; (have x61 := hg6.cell (b := w.heap.size) (o := 0) (v := .int .i64 a) (by (try simp); omega) (by simp [*])); (have x62 := hg6.cell (b := g1) (o := 0) (v := .int .u64 i1) (by (try simp); omega) (by simp [*])); (have x63 := hg6.cell (b := g1) (o := 1) (v := .int .u64 i2) (by (try simp); omega) (by simp [*])); (have x64 := hg6.cell (b := g2) (o := 0) (v := .int .u64 i3) (by (try simp); omega) (by simp [*])); (have x65 := hg6.cell (b := g2) (o := 1) (v := .int .u64 i4) (by (try simp); omega) (by simp [*])); (have z6 := hg6.size); (try simp at z6); (try (refine Blk.use (w := w6) (b := wb.heap.size) (x := .int .u64 0) (y := .int .u64 0) ?_ ?_; (focus (refine Blk.keep ?_ hg6; exact Blk.made _ _ _ _)); (intro T60 l60 m60 n60 o60 p60))); (have HG6 := Lib.hid hg6); clear hg6))
      all_goals
        (go_wp2_with fail
         go_meet
         first
           | exact ⟨rfl, _, rfl, ((Gr.drewn _).trans HG6.out).size, Blk.made _ _ _ _, (((Gr.drewn _).trans HG6.out).alloc _).below⟩
           | exact ⟨rfl, _, rfl, Nat.le_refl _, T60.out.put, put_below (((Gr.drewn _).alloc _).trans HG6.out).below (Nat.le_refl _)⟩)
    case rest =>
      clear s1 x1 y1 f1 e1 s2 x2 y2 f2 e2 s3 x3 y3 f3 e3 s4 x4 y4 f4 e4 s5 x5 y5 f5 e5 HPL
      obtain ⟨rfl, g3, rfl, hb3, K3, hB⟩ := hcut
      have TH : Three wc w.heap.size (.int .i64 a) (.int .i64 b) (.int .i64 c) (.int .i64 d) := ⟨THH.out.1.below hB, THH.out.2.1.below hB, THH.out.2.2.below hB⟩
      have K1 := KH1.out.below hB
      have K2 := KH2.out.below hB
      have hl1 := KH1.out.1
      have hl2 := KH2.out.1
      have hl3 := THH.out.2.2.1
      have KH3 := Lib.hid K3
      have HBB := Lib.hid hB
      obtain ⟨⟨s1, x1, y1, f1, e1⟩, ⟨s2, x2, y2, f2, e2⟩, ⟨s3, x3, y3, f3, e3⟩⟩ := TH
      obtain ⟨s4, x4, y4, f4, e4⟩ := K1
      obtain ⟨s5, x5, y5, f5, e5⟩ := K2
      obtain ⟨s6, x6, y6, f6, e6⟩ := K3
      clear hB
      go_upto_if 56 with fail
      go_cut [12] (fun s12 wx => ∃ ng : Bool, s12 = .bool ng ∧ (S ≠ 0 → ng = decide (S < 0)) ∧ Blk wx g3 (.int .u64 j7) (.int .u64 j8) ∧ Below wb.heap.size wb wx)
      case first =>
        by_cases e : decide (a < 0) = decide (c < 0)
        · have b1 : (!decide (a < 0) == decide (c < 0)) = false := by simp [e]
          obtain ⟨u1, u2, u3⟩ := HD1.out e
          have U1 := Lib.hid u1
          have U2 := Lib.hid u2
          have U3 := Lib.hid u3
          clear e u1 u2 u3
          rw [b1]
          go_wp2_with fail
          go_meet
          exact ⟨_, rfl, U3.out, by rw [← U1.out, ← U2.out]; exact KH3.out, HBB.out⟩
        · have b1 : (!decide (a < 0) == decide (c < 0)) = true := by simp [e]
          rw [b1]
          go_wp2_with fail
          refine (HLS.out _).mono ?_
          rintro e' w1 ⟨rfl, hg⟩
          have HG1 := Lib.hid hg
          clear s1 x1 y1 f1 e1 s2 x2 y2 f2 e2 s3 x3 y3 f3 e3
          have L1 := (KH1.out.below HBB.out).keep hg
          have L2 := (KH2.out.below HBB.out).keep hg
          have L3 := KH3.out.keep hg
          have LH3 := Lib.hid L3
          obtain ⟨s4, x4, y4, f4, e4⟩ := L1
          obtain ⟨s5, x5, y5, f5, e5⟩ := L2
          obtain ⟨s6, x6, y6, f6, e6⟩ := L3
          clear hg b1
          cases lt with
          | true =>
            obtain ⟨u1, u2, u3⟩ := HD2.out e rfl
            have U1 := Lib.hid u1
            have U2 := Lib.hid u2
            have U3 := Lib.hid u3
            clear e u1 u2 u3
            go_wp2_with fail
            refine (HMN1.out (by trivial) _).mono ?_
            rintro e' w2 ⟨rfl, hg⟩
            have L4 := LH3.out.keep hg
            have LH4 := Lib.hid L4
            obtain ⟨s7, x7, y7, f7, e7⟩ := L4
            have HG2' := Lib.hid hg
            clear hg
            go_wp2_with fail
            go_meet
            exact ⟨_, rfl, U3.out, by rw [← U1.out, ← U2.out]; exact LH4.out.put, put_below ((HBB.out.trans (HG1.out.below.mono HBB.out.size)).trans (HG2'.out.below.mono (Nat.le_trans HBB.out.size HG1.out.size))) hb3⟩
          | false =>
            obtain ⟨u1, u2, u3⟩ := HD3.out e rfl
            have U1 := Lib.hid u1
            have U2 := Lib.hid u2
            have U3 := Lib.hid u3
            clear e u1 u2 u3
            go_wp2_with fail
            refine (HMN2.out (by trivial) _).mono ?_
            rintro e' w2 ⟨rfl, hg⟩
            have L4 := LH3.out.keep hg
            have LH4 := Lib.hid L4
            obtain ⟨s7, x7, y7, f7, e7⟩ := L4
            have HG2' := Lib.hid hg
            clear hg
            go_wp2_with fail
            go_meet
            exact ⟨_, rfl, U3.out, by rw [← U1.out, ← U2.out]; exact LH4.out.put, put_below ((HBB.out.trans (HG1.out.below.mono HBB.out.size)).trans (HG2'.out.below.mono (Nat.le_trans HBB.out.size HG1.out.size))) hb3⟩
      case rest =>
        clear s1 x1 y1 f1 e1 s2 x2 y2 f2 e2 s3 x3 y3 f3 e3 s4 x4 y4 f4 e4 s5 x5 y5 f5 e5 s6 x6 y6 f6 e6 HLS HMN1 HMN2 HD1 HD2 HD3 HBB KH1 KH2 KH3
        obtain ⟨wa, hwa⟩ : ∃ wa, wa = wc := ⟨_, rfl⟩
        subst hwa
        obtain ⟨ng, rfl, hng, K3, hB⟩ := hcut
        have TH : Three wa w.heap.size (.int .i64 a) (.int .i64 b) (.int .i64 c) (.int .i64 d) := ⟨THH.out.1.below hB, THH.out.2.1.below hB, THH.out.2.2.below hB⟩
        have THA := Lib.hid TH
        have KH3 := Lib.hid K3
        have HBW := Lib.hid (HB0.out.trans (hB.mono HB0.out.size))
        have HNG := Lib.hid hng
        obtain ⟨⟨s1, x1, y1, f1, e1⟩, ⟨s2, x2, y2, f2, e2⟩, ⟨s3, x3, y3, f3, e3⟩⟩ := TH
        obtain ⟨s6, x6, y6, f6, e6⟩ := K3
        clear hB hng
        by_cases hS : S = 0
        · obtain ⟨rfl, rfl, rfl⟩ := HZV.out hS
          obtain ⟨rfl, rfl⟩ := HZ1.out.1 (HZ2.out.2 hS)
          clear hS
          go_wp2_with fail
          refine bodyPost_ret (v := .tuple #[.agg #[.int .i64 0, .int .i64 1], .int .i64 0]) (by simp [results, Tryd.results12, go_sem, *]) rfl ⟨rfl, ?_⟩
          exact put_below HBW.out (by omega)
        · have hjn : ((j7 : Int) == 0) = false ∨ (((j7 : Int) == 0) = true ∧ ((j8 : Int) == 0) = false) := by
            have h : ¬ (j7 = 0 ∧ j8 = 0) := fun h => hS (HZ2.out.1 (HZ1.out.2 h))
            by_cases e : j7 = 0
            · right; exact ⟨by simp [e], by simp; omega⟩
            · left; simp [e]
          obtain rfl := HNG.out hS
          clear hS HNG HZV HZ1 HZ2
          rcases hjn with hj | ⟨hj, hj'⟩
          all_goals
            go_wp2_with fail
            refine (HRM.out _).mono ?_
            rintro e' w1 ⟨rfl, hg⟩
            have P1 := Lib.hid hg
            clear hg
            go_wp2_with fail
            refine (HG2.out _).mono ?_
            rintro e' w2 ⟨rfl, hg⟩
            have P2 := Lib.hid (P1.out.trans hg)
            clear hg P1
            clear s1 x1 y1 f1 e1 s2 x2 y2 f2 e2 s3 x3 y3 f3 e3 s6 x6 y6 f6 e6
            obtain ⟨s6, x6, y6, f6, e6⟩ := KH3.out.keep P2.out
            have TH2 := Lib.hid ((THA.out.2.2.keep P2.out).keep (Gr.drewn _))
            have KH4 := Lib.hid ((KH3.out.keep P2.out).keep (Gr.drewn _))
            have HBX := Lib.hid ((HBW.out.trans (P2.out.below.mono HBW.out.size)).trans ((Gr.drewn w2).below.mono (Nat.le_trans HBW.out.size P2.out.size)))
            clear P2 THA THH HB0
            go_upto_region 14 with fail
            go_region_held3 (fun w' => w'.cell? ⟨g3, 0, none⟩ = some (.int .u64 j7) ∧ w'.cell? ⟨g3, 1, none⟩ = some (.int .u64 j8)) (first | (go_keep; done) | ((try dsimp only); refine ⟨?_, ?_⟩ <;> first | (simp [*]; done) | ((repeat (first | refine Lib.cell?_alloc_some _ ?_ | (rw [World.cell?_setCell_other _ _ _ _ (by intro e; injection e with e1 e2; omega)]))); simp [*]; done)))
              (first
                | (go_at_call_of 38 (Value.agg #[Value.int IntKind.u64 (j7 : Int), Value.int IntKind.u64 (j8 : Int)]); refine (HO1.out _).mono ?_; rintro e w5 ⟨rfl, hg5⟩; (obtain ⟨_, x51, x52, _⟩ := KH4.out.keep hg5); (have G5 := Lib.hid hg5); clear hg5)
                | (go_at_call 33; refine (HT3.out _).mono ?_; rintro e w6 ⟨rfl, hg6⟩; (have G6 := Lib.hid (G5.out.trans hg6)); (obtain ⟨_, x61, x62, _⟩ := KH4.out.keep (G5.out.trans hg6)); clear hg6)
                | (go_at_call_of 38 (Value.agg #[Value.int IntKind.u64 (i5 : Int), Value.int IntKind.u64 (i6 : Int)]); refine (HO2.out _).mono ?_; rintro e w7 ⟨rfl, hg7⟩; (have G7 := Lib.hid (G6.out.trans hg7)); (obtain ⟨_, x71, x72, _⟩ := KH4.out.keep (G6.out.trans hg7)); clear hg7)
                | (go_at_call 30; refine (HM.out _ rfl _).mono ?_; rintro e w8 ⟨rfl, hg8⟩; (have G8 := Lib.hid (G7.out.trans hg8)); (obtain ⟨_, x81, x82, _⟩ := KH4.out.keep (G7.out.trans hg8)); (obtain ⟨s83, x83, y83, f83, e83⟩ := TH2.out.keep (G7.out.trans hg8)); clear hg8))
            go_wp2_with fail
            refine bodyPost_ret (v := .tuple #[.agg #[.int .i64 RN, .int .i64 RD], .int .i64 RE]) (by simp [results, Tryd.results12, go_sem, *]) rfl ⟨rfl, ?_⟩
            exact put_below (HBX.out.trans (G8.out.below.mono HBX.out.size)) (by omega)
end Go.Proofs.YtdmddfhjfkdlnaaDoor
