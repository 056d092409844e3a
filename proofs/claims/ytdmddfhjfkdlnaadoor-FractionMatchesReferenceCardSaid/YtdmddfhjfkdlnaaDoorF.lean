/- The contract of Mul. Under no condition but the types' own ranges. -/
import Derived.Test.YtdmddfhjfkdlnaaDoorE
namespace Go.Proofs.YtdmddfhjfkdlnaaDoor
open Go.RowKit

/-- two arguments, and what is returned, in memory -/
def Three (w : World) (b : Nat) (f1 f2 g1 g2 : Value) : Prop := Blk w b f1 f2 ∧ Blk w (b + 1) g1 g2 ∧ Blk w (b + 1 + 1) (.int .i64 0) (.int .i64 0)
theorem Three.keep {w w' : World} {b : Nat} {f1 f2 g1 g2 : Value} (h : Three w b f1 f2 g1 g2) (g : Gr w w') : Three w' b f1 f2 g1 g2 := ⟨h.1.keep g, h.2.1.keep g, h.2.2.keep g⟩
theorem Three.made (w : World) (f1 f2 g1 g2 : Value) : Three (((w.alloc (.cells #[f1, f2] 23)).alloc (.cells #[g1, g2] 23)).alloc (.cells #[.int .i64 0, .int .i64 0] 23)) w.heap.size f1 f2 g1 g2 := by
  refine ⟨(Blk.made _ _ _ _).keep ((Gr.one _ _).alloc _), ?_, ?_⟩
  · have := (Blk.made (w.alloc (.cells #[f1, f2] 23)) g1 g2 23).keep (Gr.one _ (.cells #[.int .i64 0, .int .i64 0] 23))
    simpa using this
  · have := Blk.made ((w.alloc (.cells #[f1, f2] 23)).alloc (.cells #[g1, g2] 23)) (.int .i64 0) (.int .i64 0) 23
    simpa using this
theorem fr_zero : fr 0 = .tuple #[.agg #[.int .i64 0, .int .i64 1], .int .i64 0] := by
  have h : fit 0 = true := by decide +kernel
  obtain ⟨a, b, c⟩ := r_yes h
  unfold fr; rw [a, b, c]; rfl

set_option maxHeartbeats 1000000 in
theorem mul_no (a b c d : Int) (w : World) (h0 : -9223372036854775808 ≤ a) (h1 : a ≤ 9223372036854775807) (k0 : -9223372036854775808 ≤ b) (k1 : b ≤ 9223372036854775807)
    (h2 : -9223372036854775808 ≤ c) (h3 : c ≤ 9223372036854775807) (k2 : -9223372036854775808 ≤ d) (k3 : d ≤ 9223372036854775807) (h : (vld a b && vld c d) = false) :
    Calls Tryd.prog 14 #[.agg #[.int .i64 a, .int .i64 b], .agg #[.int .i64 c, .int .i64 d]] w fun e w' => e = .returned (.tuple #[.agg #[.int .i64 0, .int .i64 0], .int .i64 1]) ∧ Below w.heap.size w w' := by
  have V1 := fun W => valid_any a b W h0 h1 k0 k1
  have V2 := fun W => valid_any c d W h2 h3 k2 k3
  generalize vld a b = v1 at *
  generalize vld c d = v2 at *
  have HV1 := Lib.hid V1
  have HV2 := Lib.hid V2
  clear V1 V2
  cases v1 with
  | false =>
    clear h
    go_enter Tryd.func14, Tryd.ntmps14
    go_wp2_with fail
    have B0 := Lib.hid (Three.made w (.int .i64 a) (.int .i64 b) (.int .i64 c) (.int .i64 d))
    have GW := Lib.hid (((Gr.one w (.cells #[.int .i64 a, .int .i64 b] 23)).alloc (.cells #[.int .i64 c, .int .i64 d] 23)).alloc (.cells #[.int .i64 0, .int .i64 0] 23))
    generalize ((w.alloc (.cells #[.int .i64 a, .int .i64 b] 23)).alloc (.cells #[.int .i64 c, .int .i64 d] 23)).alloc (.cells #[.int .i64 0, .int .i64 0] 23) = W at *
    refine (HV1.out _).mono ?_
    rintro e w1 ⟨rfl, hg⟩
    obtain ⟨⟨s1, x1, y1, f1, e1⟩, ⟨s2, x2, y2, f2, e2⟩, ⟨s3, x3, y3, f3, e3⟩⟩ := B0.out.keep hg
    have GW1 := Lib.hid (GW.out.trans hg)
    clear B0 GW hg
    go_wp2_with fail
    refine bodyPost_ret (v := .tuple #[.agg #[.int .i64 0, .int .i64 0], .int .i64 1]) (by simp [results, Tryd.results14, go_sem, *]) rfl ⟨rfl, ?_⟩
    exact (GW1.out.below.setCell (by show _ ≤ w.heap.size + 1 + 1; omega) _).setCell (by show _ ≤ w.heap.size + 1 + 1; omega) _
  | true =>
    obtain rfl : v2 = false := by simpa using h
    clear h
    go_enter Tryd.func14, Tryd.ntmps14
    go_wp2_with fail
    have B0 := Lib.hid (Three.made w (.int .i64 a) (.int .i64 b) (.int .i64 c) (.int .i64 d))
    have GW := Lib.hid (((Gr.one w (.cells #[.int .i64 a, .int .i64 b] 23)).alloc (.cells #[.int .i64 c, .int .i64 d] 23)).alloc (.cells #[.int .i64 0, .int .i64 0] 23))
    generalize ((w.alloc (.cells #[.int .i64 a, .int .i64 b] 23)).alloc (.cells #[.int .i64 c, .int .i64 d] 23)).alloc (.cells #[.int .i64 0, .int .i64 0] 23) = W at *
    refine (HV1.out _).mono ?_
    rintro e w1 ⟨rfl, hg⟩
    have B1 := Lib.hid (B0.out.keep hg)
    obtain ⟨⟨s1, x1, y1, f1, e1⟩, ⟨s2, x2, y2, f2, e2⟩, ⟨s3, x3, y3, f3, e3⟩⟩ := B0.out.keep hg
    have GW1 := Lib.hid (GW.out.trans hg)
    clear B0 GW hg
    go_wp2_with fail
    refine (HV2.out _).mono ?_
    rintro e w2 ⟨rfl, hg⟩
    clear s1 x1 y1 f1 e1 s2 x2 y2 f2 e2 s3 x3 y3 f3 e3
    obtain ⟨⟨s1, x1, y1, f1, e1⟩, ⟨s2, x2, y2, f2, e2⟩, ⟨s3, x3, y3, f3, e3⟩⟩ := B1.out.keep hg
    have GW2 := Lib.hid (GW1.out.trans hg)
    clear B1 GW1 hg
    go_wp2_with fail
    refine bodyPost_ret (v := .tuple #[.agg #[.int .i64 0, .int .i64 0], .int .i64 1]) (by simp [results, Tryd.results14, go_sem, *]) rfl ⟨rfl, ?_⟩
    exact (GW2.out.below.setCell (by show _ ≤ w.heap.size + 1 + 1; omega) _).setCell (by show _ ≤ w.heap.size + 1 + 1; omega) _

set_option maxHeartbeats 1000000 in
theorem mul_zero (a b c d : Int) (w : World) (hv : vld a b = true) (hv' : vld c d = true) (h0 : -9223372036854775808 ≤ a) (h1 : a ≤ 9223372036854775807) (k0 : -9223372036854775808 ≤ b) (k1 : b ≤ 9223372036854775807)
    (h2 : -9223372036854775808 ≤ c) (h3 : c ≤ 9223372036854775807) (k2 : -9223372036854775808 ≤ d) (k3 : d ≤ 9223372036854775807) (h : a = 0 ∨ c = 0) :
    Calls Tryd.prog 14 #[.agg #[.int .i64 a, .int .i64 b], .agg #[.int .i64 c, .int .i64 d]] w fun e w' => e = .returned (fr (rat a b * rat c d)) ∧ Below w.heap.size w w' := by
  have hz : rat a b * rat c d = 0 := by
    rcases h with rfl | rfl
    · unfold rat; rw [Rat.zero_mkRat, Rat.zero_mul]
    · unfold rat; rw [Rat.zero_mkRat, Rat.mul_zero]
  rw [hz, fr_zero]
  have HV1 := Lib.hid (fun W => valid_at hv W h0 h1 k0 k1)
  have HV2 := Lib.hid (fun W => valid_at hv' W h2 h3 k2 k3)
  clear hz hv hv'
  have b1 : (a == 0) = true ∨ ((a == 0) = false ∧ (c == 0) = true) := by
    by_cases e : a = 0
    · exact Or.inl (by simp [e])
    · right; exact ⟨by simp [e], by simp; omega⟩
  clear h
  rcases b1 with b1 | ⟨b1, b2⟩
  all_goals
    go_enter Tryd.func14, Tryd.ntmps14
    go_wp2_with fail
    have B0 := Lib.hid (Three.made w (.int .i64 a) (.int .i64 b) (.int .i64 c) (.int .i64 d))
    have GW := Lib.hid (((Gr.one w (.cells #[.int .i64 a, .int .i64 b] 23)).alloc (.cells #[.int .i64 c, .int .i64 d] 23)).alloc (.cells #[.int .i64 0, .int .i64 0] 23))
    generalize ((w.alloc (.cells #[.int .i64 a, .int .i64 b] 23)).alloc (.cells #[.int .i64 c, .int .i64 d] 23)).alloc (.cells #[.int .i64 0, .int .i64 0] 23) = W at *
    refine (HV1.out _).mono ?_
    rintro e w1 ⟨rfl, hg⟩
    have B1 := Lib.hid (B0.out.keep hg)
    obtain ⟨⟨s1, x1, y1, f1, e1⟩, ⟨s2, x2, y2, f2, e2⟩, ⟨s3, x3, y3, f3, e3⟩⟩ := B0.out.keep hg
    have GW1 := Lib.hid (GW.out.trans hg)
    clear B0 GW hg
    go_wp2_with fail
    refine (HV2.out _).mono ?_
    rintro e w2 ⟨rfl, hg⟩
    clear s1 x1 y1 f1 e1 s2 x2 y2 f2 e2 s3 x3 y3 f3 e3
    have B2 := Lib.hid (B1.out.keep hg)
    obtain ⟨⟨s1, x1, y1, f1, e1⟩, ⟨s2, x2, y2, f2, e2⟩, ⟨s3, x3, y3, f3, e3⟩⟩ := B1.out.keep hg
    have GW2 := Lib.hid (GW1.out.trans hg)
    clear B1 GW1 hg
    go_wp2_with fail
    refine bodyPost_ret (v := .tuple #[.agg #[.int .i64 0, .int .i64 1], .int .i64 0]) (by simp [results, Tryd.results14, go_sem, *]) rfl ⟨rfl, ?_⟩
    exact (GW2.out.below.setCell (by show _ ≤ w.heap.size + 1 + 1; omega) _).setCell (by show _ ≤ w.heap.size + 1 + 1; omega) _

theorem ov_lt (a n : Nat) : ov a n < 18446744073709551616 := by
  unfold ov; split
  · omega
  · rename_i h
    rw [Nat.not_le, Nat.div_lt_iff_lt_mul (by decide)] at h
    rcases Nat.eq_zero_or_pos n with c | c
    · subst c; simp
    · rw [Nat.div_lt_iff_lt_mul c, Nat.mul_comm]; exact h
theorem quo_fact (p q : Nat) (hp : p < 18446744073709551616) : IntKind.u64.wrap ((p : Int) / (q : Int)) = ((p / q : Nat) : Int) ∧ IntKind.u64.wrap ((p : Int).tdiv (q : Int)) = ((p / q : Nat) : Int) := by
  have := Nat.div_le_self p q
  have e : IntKind.u64.wrap ((p : Int) / (q : Int)) = ((p / q : Nat) : Int) := by rw [← Int.natCast_ediv]; exact Mul64.wrapN _ (by omega)
  exact ⟨e, by rw [← e]; rfl⟩

set_option maxHeartbeats 4000000 in
theorem mul_some (a b c d : Int) (w : World) (hv : vld a b = true) (hv' : vld c d = true) (h0 : -9223372036854775808 ≤ a) (h1 : a ≤ 9223372036854775807) (k0 : -9223372036854775808 ≤ b) (k1 : b ≤ 9223372036854775807)
    (h2 : -9223372036854775808 ≤ c) (h3 : c ≤ 9223372036854775807) (k2 : -9223372036854775808 ≤ d) (k3 : d ≤ 9223372036854775807) (ha : a ≠ 0) (hc : c ≠ 0) :
    Calls Tryd.prog 14 #[.agg #[.int .i64 a, .int .i64 b], .agg #[.int .i64 c, .int .i64 d]] w fun e w' => e = .returned (fr (rat a b * rat c d)) ∧ Below w.heap.size w w' := by
  have HV1 := Lib.hid (fun W => valid_at hv W h0 h1 k0 k1)
  have HV2 := Lib.hid (fun W => valid_at hv' W h2 h3 k2 k3)
  obtain ⟨t1, t2⟩ := mul_terms (rat a b) (rat c d)
  rw [rat_num hv, rat_num hv', rat_den hv, rat_den hv'] at t1 t2
  obtain ⟨m1, m2, m3⟩ := md_eq t1 t2
  have ob := md_ov (neg := (decide (a < 0) != decide (c < 0))) (a := a.natAbs / Nat.gcd a.natAbs d.natAbs * (c.natAbs / Nat.gcd c.natAbs b.natAbs)) (n := 1) (b := b.natAbs / Nat.gcd c.natAbs b.natAbs * (d.natAbs / Nat.gcd a.natAbs d.natAbs)) (m := 1) (by decide) (by decide)
  simp only [Nat.div_one] at ob
  obtain ⟨o1, o2, o3⟩ := ob
  obtain ⟨hb, _, _, _⟩ := vld_iff.1 hv
  obtain ⟨hd, _, _, _⟩ := vld_iff.1 hv'
  unfold fr
  have S1 := Lib.hid (fun W => size_any a W h0 h1)
  have S2 := Lib.hid (fun W => size_any b W k0 k1)
  have S3 := Lib.hid (fun W => size_any c W h2 h3)
  have S4 := Lib.hid (fun W => size_any d W k2 k3)
  have hx : 0 < Nat.gcd a.natAbs d.natAbs := Nat.gcd_pos_of_pos_right _ (by omega)
  have hy : 0 < Nat.gcd c.natAbs b.natAbs := Nat.gcd_pos_of_pos_right _ (by omega)
  have G1 := Lib.hid (fun W => divisor_gr a.natAbs d.natAbs W (by omega) (by omega))
  have G2 := Lib.hid (fun W => divisor_gr c.natAbs b.natAbs W (by omega) (by omega))
  obtain ⟨q1, r1⟩ := quo_fact a.natAbs (Nat.gcd a.natAbs d.natAbs) (by omega)
  obtain ⟨q2, r2⟩ := quo_fact c.natAbs (Nat.gcd c.natAbs b.natAbs) (by omega)
  obtain ⟨q3, r3⟩ := quo_fact b.natAbs (Nat.gcd c.natAbs b.natAbs) (by omega)
  obtain ⟨q4, r4⟩ := quo_fact d.natAbs (Nat.gcd a.natAbs d.natAbs) (by omega)
  have l1 := Nat.div_le_self a.natAbs (Nat.gcd a.natAbs d.natAbs)
  have l2 := Nat.div_le_self c.natAbs (Nat.gcd c.natAbs b.natAbs)
  have l3 := Nat.div_le_self b.natAbs (Nat.gcd c.natAbs b.natAbs)
  have l4 := Nat.div_le_self d.natAbs (Nat.gcd a.natAbs d.natAbs)
  clear t1 t2 hv hv'
  generalize a.natAbs / Nat.gcd a.natAbs d.natAbs = p1 at *
  generalize c.natAbs / Nat.gcd c.natAbs b.natAbs = p2 at *
  generalize b.natAbs / Nat.gcd c.natAbs b.natAbs = p3 at *
  generalize d.natAbs / Nat.gcd a.natAbs d.natAbs = p4 at *
  have T1 := fun W => times_any p1 p2 W (by omega) (by omega)
  have T2 := fun W => times_any p3 p4 W (by omega) (by omega)
  have O1 := fun W => over_any (p1 * p2) 1 W (by decide)
  have O2 := fun W => over_any (p3 * p4) 1 W (by decide)
  have M := fun W => made_any (decide (a < 0) != decide (c < 0)) (ov (p1 * p2) 1) (ov (p3 * p4) 1) W (ov_lt _ _) (ov_lt _ _)
  rw [o1, o2, o3, m1, m2, m3] at M
  unfold wd at T1 T2 O1 O2
  generalize rN (rat a b * rat c d) = RN at *
  generalize rD (rat a b * rat c d) = RD at *
  generalize rE (rat a b * rat c d) = RE at *
  clear l1 l2 l3 l4 o1 o2 o3 m1 m2 m3
  generalize ov (p1 * p2) 1 = v1 at *
  generalize ov (p3 * p4) 1 = v2 at *
  generalize p1 * p2 / 18446744073709551616 = i1 at *
  generalize p1 * p2 % 18446744073709551616 = i2 at *
  generalize p3 * p4 / 18446744073709551616 = i3 at *
  generalize p3 * p4 % 18446744073709551616 = i4 at *
  generalize Nat.gcd a.natAbs d.natAbs = x at *
  generalize Nat.gcd c.natAbs b.natAbs = y at *
  generalize a.natAbs = na at *
  generalize b.natAbs = nb at *
  generalize c.natAbs = nc at *
  generalize d.natAbs = nd at *
  have HT1 := Lib.hid T1
  have HT2 := Lib.hid T2
  have HO1 := Lib.hid O1
  have HO2 := Lib.hid O2
  have HM := Lib.hid M
  have b1 : (a == 0) = false := by simp [ha]
  have b2 : (c == 0) = false := by simp [hc]
  have z1 : ¬ x = 0 := by omega
  have z2 : ¬ (x : Int) = 0 := by omega
  have z3 : ¬ y = 0 := by omega
  have z4 : ¬ (y : Int) = 0 := by omega
  have z5 : ((x : Int) == 0) = false := by simp; omega
  have z6 : ((y : Int) == 0) = false := by simp; omega
  clear T1 T2 O1 O2 M ha hc hb hd
  go_enter Tryd.func14, Tryd.ntmps14
  go_wp2_with fail
  have B0 := Lib.hid (Three.made w (.int .i64 a) (.int .i64 b) (.int .i64 c) (.int .i64 d))
  have GW := Lib.hid (((Gr.one w (.cells #[.int .i64 a, .int .i64 b] 23)).alloc (.cells #[.int .i64 c, .int .i64 d] 23)).alloc (.cells #[.int .i64 0, .int .i64 0] 23))
  generalize ((w.alloc (.cells #[.int .i64 a, .int .i64 b] 23)).alloc (.cells #[.int .i64 c, .int .i64 d] 23)).alloc (.cells #[.int .i64 0, .int .i64 0] 23) = W at *
  refine (HV1.out _).mono ?_
  rintro e w1 ⟨rfl, hg⟩
  have B1 := Lib.hid (B0.out.keep hg)
  obtain ⟨⟨s1, x1, y1, f1, e1⟩, ⟨s2, x2, y2, f2, e2⟩, ⟨s3, x3, y3, f3, e3⟩⟩ := B0.out.keep hg
  have GW1 := Lib.hid (GW.out.trans hg)
  clear B0 GW hg
  go_wp2_with fail
  refine (HV2.out _).mono ?_
  rintro e w2 ⟨rfl, hg⟩
  clear s1 x1 y1 f1 e1 s2 x2 y2 f2 e2 s3 x3 y3 f3 e3
  have B2 := Lib.hid (B1.out.keep hg)
  obtain ⟨⟨s1, x1, y1, f1, e1⟩, ⟨s2, x2, y2, f2, e2⟩, ⟨s3, x3, y3, f3, e3⟩⟩ := B1.out.keep hg
  have GW2 := Lib.hid (GW1.out.trans hg)
  clear B1 GW1 hg
  go_wp2_with fail
  go_quiet ((first | (go_at_call_of 29 (Value.int IntKind.i64 a); exact Calls.quiet_of_same ((S1.out _).mono fun _ _ ⟨h, k⟩ => ⟨h, k.symm⟩)) | (go_at_call_of 29 (Value.int IntKind.i64 b); exact Calls.quiet_of_same ((S2.out _).mono fun _ _ ⟨h, k⟩ => ⟨h, k.symm⟩)) | (go_at_call_of 29 (Value.int IntKind.i64 c); exact Calls.quiet_of_same ((S3.out _).mono fun _ _ ⟨h, k⟩ => ⟨h, k.symm⟩)) | (go_at_call_of 29 (Value.int IntKind.i64 d); exact Calls.quiet_of_same ((S4.out _).mono fun _ _ ⟨h, k⟩ => ⟨h, k.symm⟩))))
  go_wp2_with fail
  have B3 := Lib.hid (B2.out.keep (Gr.drewN _ nq))
  have GW3 := Lib.hid (GW2.out.trans (Gr.drewN _ nq))
  clear s1 x1 y1 f1 e1 s2 x2 y2 f2 e2 s3 x3 y3 f3 e3 B2 GW2
  generalize w2.drewN nq = w3 at *
  refine (G1.out _).mono ?_
  rintro e w4 ⟨rfl, hg⟩
  have B4 := Lib.hid (B3.out.keep hg)
  have GW4 := Lib.hid (GW3.out.trans hg)
  clear hg B3 GW3
  go_wp2_with fail
  refine (G2.out _).mono ?_
  rintro e w5 ⟨rfl, hg⟩
  have B5 := Lib.hid ((B4.out.keep hg).keep (Gr.drewn _))
  have GW5 := Lib.hid ((GW4.out.trans hg).trans (Gr.drewn _))
  obtain ⟨⟨s1, x1, y1, f1, e1⟩, ⟨s2, x2, y2, f2, e2⟩, ⟨s3, x3, y3, f3, e3⟩⟩ := B4.out.keep hg
  clear hg B4 GW4
  go_wp2_with fail
  go_region_held3 (fun w' => w'.cell? ⟨w.heap.size, 0, none⟩ = some (.int .i64 a) ∧ w'.cell? ⟨w.heap.size + 1, 0, none⟩ = some (.int .i64 c)) (first | (go_keep; done) | ((try dsimp only); refine ⟨?_, ?_⟩ <;> first | (simp [*]; done) | (rw [World.cell?_setCell_other _ _ _ _ (by intro e; injection e with e1 e2; omega), World.cell?_setCell_other _ _ _ _ (by intro e; injection e with e1 e2; omega)]; simp [*]; done)))
    (first
      | (go_at_call_of 33 (Value.int IntKind.u64 (p1 : Int)); refine (HT1.out _).mono ?_; rintro e w6 ⟨rfl, hg⟩; (have B6 := Lib.hid (B5.out.keep hg)); (have GW6 := Lib.hid (GW5.out.trans hg)); (obtain ⟨⟨_, x61, _⟩, ⟨_, x62, _⟩, _⟩ := B5.out.keep hg); clear hg)
      | (go_at_call_of 38 (Value.agg #[Value.int IntKind.u64 (i1 : Int), Value.int IntKind.u64 (i2 : Int)]); refine (HO1.out _).mono ?_; rintro e w7 ⟨rfl, hg⟩; (have B7 := Lib.hid (B6.out.keep hg)); (have GW7 := Lib.hid (GW6.out.trans hg)); (obtain ⟨⟨_, x71, _⟩, ⟨_, x72, _⟩, _⟩ := B6.out.keep hg); clear hg)
      | (go_at_call_of 33 (Value.int IntKind.u64 (p3 : Int)); refine (HT2.out _).mono ?_; rintro e w8 ⟨rfl, hg⟩; (have B8 := Lib.hid (B7.out.keep hg)); (have GW8 := Lib.hid (GW7.out.trans hg)); (obtain ⟨⟨_, x81, _⟩, ⟨_, x82, _⟩, _⟩ := B7.out.keep hg); clear hg)
      | (go_at_call_of 38 (Value.agg #[Value.int IntKind.u64 (i3 : Int), Value.int IntKind.u64 (i4 : Int)]); refine (HO2.out _).mono ?_; rintro e w9 ⟨rfl, hg⟩; (have B9 := Lib.hid (B8.out.keep hg)); (have GW9 := Lib.hid (GW8.out.trans hg)); (obtain ⟨⟨_, x91, _⟩, ⟨_, x92, _⟩, _⟩ := B8.out.keep hg); clear hg)
      | (go_at_call 30; refine (HM.out _).mono ?_; rintro e wa ⟨rfl, hg⟩; (have GWa := Lib.hid (GW9.out.trans hg)); (obtain ⟨⟨_, xa1, _⟩, ⟨_, xa2, _⟩, ⟨sa3, xa3, ya3, fa3, ea3⟩⟩ := B9.out.keep hg); clear hg))
  go_wp2_with fail
  refine bodyPost_ret (v := .tuple #[.agg #[.int .i64 RN, .int .i64 RD], .int .i64 RE]) (by simp [results, Tryd.results14, go_sem, *]) rfl ⟨rfl, ?_⟩
  exact (GWa.out.below.setCell (by show _ ≤ w.heap.size + 1 + 1; omega) _).setCell (by show _ ≤ w.heap.size + 1 + 1; omega) _
theorem mul_yes (a b c d : Int) (w : World) (hv : vld a b = true) (hv' : vld c d = true) :
    Calls Tryd.prog 14 #[.agg #[.int .i64 a, .int .i64 b], .agg #[.int .i64 c, .int .i64 d]] w fun e w' => e = .returned (fr (rat a b * rat c d)) ∧ Below w.heap.size w w' := by
  obtain ⟨_, _, _, _⟩ := vld_iff.1 hv
  obtain ⟨_, _, _, _⟩ := vld_iff.1 hv'
  by_cases h : a = 0 ∨ c = 0
  · exact mul_zero a b c d w hv hv' (by omega) (by omega) (by omega) (by omega) (by omega) (by omega) (by omega) (by omega) h
  · exact mul_some a b c d w hv hv' (by omega) (by omega) (by omega) (by omega) (by omega) (by omega) (by omega) (by omega) (fun e => h (Or.inl e)) (fun e => h (Or.inr e))
end Go.Proofs.YtdmddfhjfkdlnaaDoor
