/- The contracts of Compare and Floor, and of Add where one is not valid. Under no condition but the types' own ranges. -/
import Derived.Test.YtdmddfhjfkdlnaaDoorF
import Derived.Test.YtdmddfhjfkdlnaaDoorPb
namespace Go.Proofs.YtdmddfhjfkdlnaaDoor
open Go.RowKit

/-- two arguments in memory -/
def Pair (w : World) (b : Nat) (f1 f2 g1 g2 : Value) : Prop := Blk w b f1 f2 ∧ Blk w (b + 1) g1 g2
theorem Pair.keep {w w' : World} {b : Nat} {f1 f2 g1 g2 : Value} (h : Pair w b f1 f2 g1 g2) (g : Gr w w') : Pair w' b f1 f2 g1 g2 := ⟨h.1.keep g, h.2.keep g⟩
theorem Pair.made (w : World) (f1 f2 g1 g2 : Value) : Pair ((w.alloc (.cells #[f1, f2] 23)).alloc (.cells #[g1, g2] 23)) w.heap.size f1 f2 g1 g2 := by
  refine ⟨(Blk.made _ _ _ _).keep (Gr.one _ _), ?_⟩
  have := Blk.made (w.alloc (.cells #[f1, f2] 23)) g1 g2 23
  simpa using this

set_option maxHeartbeats 1000000 in
theorem compare_no (a b c d : Int) (w : World) (h0 : -9223372036854775808 ≤ a) (h1 : a ≤ 9223372036854775807) (k0 : -9223372036854775808 ≤ b) (k1 : b ≤ 9223372036854775807)
    (h2 : -9223372036854775808 ≤ c) (h3 : c ≤ 9223372036854775807) (k2 : -9223372036854775808 ≤ d) (k3 : d ≤ 9223372036854775807) (h : (vld a b && vld c d) = false) :
    Calls Tryd.prog 18 #[.agg #[.int .i64 a, .int .i64 b], .agg #[.int .i64 c, .int .i64 d]] w fun e w' => e = .returned (.tuple #[.int .i64 0, .int .i64 1]) ∧ Gr w w' := by
  have V1 := fun W => valid_any a b W h0 h1 k0 k1
  have V2 := fun W => valid_any c d W h2 h3 k2 k3
  generalize vld a b = v1 at *
  generalize vld c d = v2 at *
  have HV1 := Lib.hid V1
  have HV2 := Lib.hid V2
  clear V1 V2
  cases v1 with
  | false =>
    clear h
    go_enter Tryd.func18, Tryd.ntmps18
    go_wp2_with fail
    have B0 := Lib.hid (Pair.made w (.int .i64 a) (.int .i64 b) (.int .i64 c) (.int .i64 d))
    have GW := Lib.hid ((Gr.one w (.cells #[.int .i64 a, .int .i64 b] 23)).alloc (.cells #[.int .i64 c, .int .i64 d] 23))
    generalize (w.alloc (.cells #[.int .i64 a, .int .i64 b] 23)).alloc (.cells #[.int .i64 c, .int .i64 d] 23) = W at *
    refine (HV1.out _).mono ?_
    rintro e w1 ⟨rfl, hg⟩
    have B1 := Lib.hid (B0.out.keep hg)
    obtain ⟨⟨s1, x1, y1, f1, e1⟩, ⟨s2, x2, y2, f2, e2⟩⟩ := B0.out.keep hg
    have GW1 := Lib.hid (GW.out.trans hg)
    clear B0 GW hg
    go_wp2_with fail
    go_ret2
    exact ⟨rfl, GW1.out⟩
  | true =>
    obtain rfl : v2 = false := by simpa using h
    clear h
    go_enter Tryd.func18, Tryd.ntmps18
    go_wp2_with fail
    have B0 := Lib.hid (Pair.made w (.int .i64 a) (.int .i64 b) (.int .i64 c) (.int .i64 d))
    have GW := Lib.hid ((Gr.one w (.cells #[.int .i64 a, .int .i64 b] 23)).alloc (.cells #[.int .i64 c, .int .i64 d] 23))
    generalize (w.alloc (.cells #[.int .i64 a, .int .i64 b] 23)).alloc (.cells #[.int .i64 c, .int .i64 d] 23) = W at *
    refine (HV1.out _).mono ?_
    rintro e w1 ⟨rfl, hg⟩
    have B1 := Lib.hid (B0.out.keep hg)
    obtain ⟨⟨s1, x1, y1, f1, e1⟩, ⟨s2, x2, y2, f2, e2⟩⟩ := B0.out.keep hg
    have GW1 := Lib.hid (GW.out.trans hg)
    clear B0 GW hg
    go_wp2_with fail
    refine (HV2.out _).mono ?_
    rintro e w2 ⟨rfl, hg⟩
    clear s1 x1 y1 f1 e1 s2 x2 y2 f2 e2
    have B2 := Lib.hid (B1.out.keep hg)
    obtain ⟨⟨s1, x1, y1, f1, e1⟩, ⟨s2, x2, y2, f2, e2⟩⟩ := B1.out.keep hg
    have GW2 := Lib.hid (GW1.out.trans hg)
    clear B1 GW1 hg
    go_wp2_with fail
    go_ret2
    exact ⟨rfl, GW2.out⟩

set_option maxHeartbeats 1000000 in
theorem compare_eq (a b : Int) (w : World) (hv : vld a b = true) (h0 : -9223372036854775808 ≤ a) (h1 : a ≤ 9223372036854775807) (k0 : -9223372036854775808 ≤ b) (k1 : b ≤ 9223372036854775807) :
    Calls Tryd.prog 18 #[.agg #[.int .i64 a, .int .i64 b], .agg #[.int .i64 a, .int .i64 b]] w fun e w' => e = .returned (.tuple #[.int .i64 0, .int .i64 0]) ∧ Gr w w' := by
  have HV1 := Lib.hid (fun W => valid_at hv W h0 h1 k0 k1)
  have HV2 := Lib.hid (fun W => valid_at hv W h0 h1 k0 k1)
  clear hv
  go_enter Tryd.func18, Tryd.ntmps18
  go_wp2_with fail
  have B0 := Lib.hid (Pair.made w (.int .i64 a) (.int .i64 b) (.int .i64 a) (.int .i64 b))
  have GW := Lib.hid ((Gr.one w (.cells #[.int .i64 a, .int .i64 b] 23)).alloc (.cells #[.int .i64 a, .int .i64 b] 23))
  generalize (w.alloc (.cells #[.int .i64 a, .int .i64 b] 23)).alloc (.cells #[.int .i64 a, .int .i64 b] 23) = W at *
  refine (HV1.out _).mono ?_
  rintro e w1 ⟨rfl, hg⟩
  have B1 := Lib.hid (B0.out.keep hg)
  obtain ⟨⟨s1, x1, y1, f1, e1⟩, ⟨s2, x2, y2, f2, e2⟩⟩ := B0.out.keep hg
  have GW1 := Lib.hid (GW.out.trans hg)
  clear B0 GW hg
  go_wp2_with fail
  refine (HV2.out _).mono ?_
  rintro e w2 ⟨rfl, hg⟩
  clear s1 x1 y1 f1 e1 s2 x2 y2 f2 e2
  have B2 := Lib.hid (B1.out.keep hg)
  obtain ⟨⟨s1, x1, y1, f1, e1⟩, ⟨s2, x2, y2, f2, e2⟩⟩ := B1.out.keep hg
  have GW2 := Lib.hid (GW1.out.trans hg)
  clear B1 GW1 hg
  go_wp2_with fail
  go_ret2
  exact ⟨rfl, GW2.out⟩

theorem ne_bools {a b c d : Int} (h : ¬ (a = c ∧ b = d)) : (a == c) = false ∨ ((a == c) = true ∧ (b == d) = false) := by
  by_cases e : a = c
  · right; exact ⟨by simp [e], by simp only [beq_eq_false_iff_ne]; exact fun e' => h ⟨e, e'⟩⟩
  · left; simp only [beq_eq_false_iff_ne]; exact e
theorem nat_lt_z {a : Int} (h : decide (a < 0) = false) : ¬ a < 0 := of_decide_eq_false h

set_option maxHeartbeats 2000000 in
theorem compare_diff (a b c d : Int) (w : World) (hv : vld a b = true) (hv' : vld c d = true) (h0 : -9223372036854775808 ≤ a) (h1 : a ≤ 9223372036854775807) (k0 : -9223372036854775808 ≤ b) (k1 : b ≤ 9223372036854775807)
    (h2 : -9223372036854775808 ≤ c) (h3 : c ≤ 9223372036854775807) (k2 : -9223372036854775808 ≤ d) (k3 : d ≤ 9223372036854775807) (hs : decide (a < 0) ≠ decide (c < 0)) :
    Calls Tryd.prog 18 #[.agg #[.int .i64 a, .int .i64 b], .agg #[.int .i64 c, .int .i64 d]] w fun e w' => e = .returned (.tuple #[.int .i64 (cmp a b c d), .int .i64 0]) ∧ Gr w w' := by
  have hc := cmp_diff hv hv' hs
  have hb := ne_bools (a := a) (b := b) (c := c) (d := d) (fun e => hs (by rw [e.1]))
  have HV1 := Lib.hid (fun W => valid_at hv W h0 h1 k0 k1)
  have HV2 := Lib.hid (fun W => valid_at hv' W h2 h3 k2 k3)
  generalize cmp a b c d = C at *
  clear hv hv'
  by_cases ha : a < 0
  · have hcn : decide (c < 0) = false := by
      cases hx : decide (c < 0)
      · rfl
      · exact absurd (by rw [hx]; exact decide_eq_true ha) hs
    have hct : decide (a < 0) = true := decide_eq_true ha
    rw [if_pos ha] at hc
    subst hc
    clear hs ha
    rcases hb with b1 | ⟨b1, b2⟩
    all_goals
      go_enter Tryd.func18, Tryd.ntmps18
      go_wp2_with fail
      have B0 := Lib.hid (Pair.made w (.int .i64 a) (.int .i64 b) (.int .i64 c) (.int .i64 d))
      have GW := Lib.hid ((Gr.one w (.cells #[.int .i64 a, .int .i64 b] 23)).alloc (.cells #[.int .i64 c, .int .i64 d] 23))
      generalize (w.alloc (.cells #[.int .i64 a, .int .i64 b] 23)).alloc (.cells #[.int .i64 c, .int .i64 d] 23) = W at *
      refine (HV1.out _).mono ?_
      rintro e w1 ⟨rfl, hg⟩
      have B1 := Lib.hid (B0.out.keep hg)
      obtain ⟨⟨s1, x1, y1, f1, e1⟩, ⟨s2, x2, y2, f2, e2⟩⟩ := B0.out.keep hg
      have GW1 := Lib.hid (GW.out.trans hg)
      clear B0 GW hg
      go_wp2_with fail
      refine (HV2.out _).mono ?_
      rintro e w2 ⟨rfl, hg⟩
      clear s1 x1 y1 f1 e1 s2 x2 y2 f2 e2
      have B2 := Lib.hid (B1.out.keep hg)
      obtain ⟨⟨s1, x1, y1, f1, e1⟩, ⟨s2, x2, y2, f2, e2⟩⟩ := B1.out.keep hg
      have GW2 := Lib.hid (GW1.out.trans hg)
      clear B1 GW1 hg
      go_wp2_with fail
      go_ret2
      exact ⟨rfl, GW2.out⟩
  · have hct : decide (a < 0) = false := decide_eq_false ha
    have hcn : decide (c < 0) = true := by
      cases hx : decide (c < 0)
      · exact absurd (by rw [hx]; exact hct) hs
      · rfl
    rw [if_neg ha] at hc
    subst hc
    clear hs ha
    rcases hb with b1 | ⟨b1, b2⟩
    all_goals
      go_enter Tryd.func18, Tryd.ntmps18
      go_wp2_with fail
      have B0 := Lib.hid (Pair.made w (.int .i64 a) (.int .i64 b) (.int .i64 c) (.int .i64 d))
      have GW := Lib.hid ((Gr.one w (.cells #[.int .i64 a, .int .i64 b] 23)).alloc (.cells #[.int .i64 c, .int .i64 d] 23))
      generalize (w.alloc (.cells #[.int .i64 a, .int .i64 b] 23)).alloc (.cells #[.int .i64 c, .int .i64 d] 23) = W at *
      refine (HV1.out _).mono ?_
      rintro e w1 ⟨rfl, hg⟩
      have B1 := Lib.hid (B0.out.keep hg)
      obtain ⟨⟨s1, x1, y1, f1, e1⟩, ⟨s2, x2, y2, f2, e2⟩⟩ := B0.out.keep hg
      have GW1 := Lib.hid (GW.out.trans hg)
      clear B0 GW hg
      go_wp2_with fail
      refine (HV2.out _).mono ?_
      rintro e w2 ⟨rfl, hg⟩
      clear s1 x1 y1 f1 e1 s2 x2 y2 f2 e2
      have B2 := Lib.hid (B1.out.keep hg)
      obtain ⟨⟨s1, x1, y1, f1, e1⟩, ⟨s2, x2, y2, f2, e2⟩⟩ := B1.out.keep hg
      have GW2 := Lib.hid (GW1.out.trans hg)
      clear B1 GW1 hg
      go_wp2_with fail
      go_ret2
      exact ⟨rfl, GW2.out⟩

set_option maxHeartbeats 4000000 in
theorem compare_same (a b c d : Int) (w : World) (hv : vld a b = true) (hv' : vld c d = true) (h0 : -9223372036854775808 ≤ a) (h1 : a ≤ 9223372036854775807) (k0 : -9223372036854775808 ≤ b) (k1 : b ≤ 9223372036854775807)
    (h2 : -9223372036854775808 ≤ c) (h3 : c ≤ 9223372036854775807) (k2 : -9223372036854775808 ≤ d) (k3 : d ≤ 9223372036854775807) (hne : ¬ (a = c ∧ b = d)) (hs : decide (a < 0) = decide (c < 0)) :
    Calls Tryd.prog 18 #[.agg #[.int .i64 a, .int .i64 b], .agg #[.int .i64 c, .int .i64 d]] w fun e w' => e = .returned (.tuple #[.int .i64 (cmp a b c d), .int .i64 0]) ∧ Gr w w' := by
  have hc := cmp_same hv hv' hne hs
  have hb := ne_bools hne
  have HV1 := Lib.hid (fun W => valid_at hv W h0 h1 k0 k1)
  have HV2 := Lib.hid (fun W => valid_at hv' W h2 h3 k2 k3)
  have S1 := Lib.hid (fun W => size_any a W h0 h1)
  have S2 := Lib.hid (fun W => size_any b W k0 k1)
  have S3 := Lib.hid (fun W => size_any c W h2 h3)
  have S4 := Lib.hid (fun W => size_any d W k2 k3)
  have T1 := fun W => times_any a.natAbs d.natAbs W (by omega) (by omega)
  have T2 := fun W => times_any c.natAbs b.natAbs W (by omega) (by omega)
  have LS := fun W => less_any (a.natAbs * d.natAbs) (c.natAbs * b.natAbs) W
  unfold wd at T1 T2 LS
  generalize cmp a b c d = C at *
  generalize decide (a.natAbs * d.natAbs < c.natAbs * b.natAbs) = lt at *
  generalize a.natAbs * d.natAbs / 18446744073709551616 = i1 at *
  generalize a.natAbs * d.natAbs % 18446744073709551616 = i2 at *
  generalize c.natAbs * b.natAbs / 18446744073709551616 = i3 at *
  generalize c.natAbs * b.natAbs % 18446744073709551616 = i4 at *
  generalize a.natAbs = na at *
  generalize b.natAbs = nb at *
  generalize c.natAbs = nc at *
  generalize d.natAbs = nd at *
  have HT1 := Lib.hid T1
  have HT2 := Lib.hid T2
  have HLS := Lib.hid LS
  have HC := Lib.hid hc
  clear hv hv' hne T1 T2 LS hc
  have bs : (decide (a < 0) == decide (c < 0)) = true := by simp [hs]
  obtain ⟨sg, hsg⟩ : ∃ sg, decide (a < 0) = sg := ⟨_, rfl⟩
  have hsc : decide (c < 0) = sg := hs.symm.trans hsg
  clear hs bs
  rw [hsg] at HC
  cases lt <;> cases sg <;> rcases hb with b1 | ⟨b1, b2⟩
  all_goals
    obtain rfl := HC.out
    go_enter Tryd.func18, Tryd.ntmps18
    go_wp2_with fail
    have B0 := Lib.hid (Pair.made w (.int .i64 a) (.int .i64 b) (.int .i64 c) (.int .i64 d))
    have GW := Lib.hid ((Gr.one w (.cells #[.int .i64 a, .int .i64 b] 23)).alloc (.cells #[.int .i64 c, .int .i64 d] 23))
    generalize (w.alloc (.cells #[.int .i64 a, .int .i64 b] 23)).alloc (.cells #[.int .i64 c, .int .i64 d] 23) = W at *
    refine (HV1.out _).mono ?_
    rintro e w1 ⟨rfl, hg⟩
    have B1 := Lib.hid (B0.out.keep hg)
    obtain ⟨⟨s1, x1, y1, f1, e1⟩, ⟨s2, x2, y2, f2, e2⟩⟩ := B0.out.keep hg
    have GW1 := Lib.hid (GW.out.trans hg)
    clear B0 GW hg
    go_wp2_with fail
    refine (HV2.out _).mono ?_
    rintro e w2 ⟨rfl, hg⟩
    clear s1 x1 y1 f1 e1 s2 x2 y2 f2 e2
    have B2 := Lib.hid (B1.out.keep hg)
    obtain ⟨⟨s1, x1, y1, f1, e1⟩, ⟨s2, x2, y2, f2, e2⟩⟩ := B1.out.keep hg
    have GW2 := Lib.hid (GW1.out.trans hg)
    clear B1 GW1 hg
    go_wp2_with fail
    have B3 := Lib.hid (B2.out.keep (Gr.drewn _))
    have GW3 := Lib.hid (GW2.out.trans (Gr.drewn _))
    clear B2 GW2
    go_region_held3 (fun w' => w'.cell? ⟨w.heap.size, 0, none⟩ = some (.int .i64 a) ∧ w'.cell? ⟨w.heap.size, 1, none⟩ = some (.int .i64 b) ∧ w'.cell? ⟨w.heap.size + 1, 0, none⟩ = some (.int .i64 c) ∧ w'.cell? ⟨w.heap.size + 1, 1, none⟩ = some (.int .i64 d)) (first | (go_keep; done) | ((try dsimp only); refine ⟨?_, ?_, ?_, ?_⟩ <;> simp [*]))
      (first
        | (go_at_call_of 29 (Value.int IntKind.i64 a); refine (S1.out _).mono ?_; rintro e w9 ⟨rfl, rfl⟩)
        | (go_at_call_of 29 (Value.int IntKind.i64 d); refine (S4.out _).mono ?_; rintro e w9 ⟨rfl, rfl⟩)
        | (go_at_call_of 29 (Value.int IntKind.i64 c); refine (S3.out _).mono ?_; rintro e w9 ⟨rfl, rfl⟩)
        | (go_at_call_of 29 (Value.int IntKind.i64 b); refine (S2.out _).mono ?_; rintro e w9 ⟨rfl, rfl⟩)
        | (go_at_call_of 33 (Value.int IntKind.u64 (na : Int)); refine (HT1.out _).mono ?_; rintro e w5 ⟨rfl, hg⟩; (have G5 := Lib.hid hg); (obtain ⟨⟨_, x51, y51, _⟩, ⟨_, x52, y52, _⟩⟩ := B3.out.keep hg); clear hg)
        | (go_at_call_of 33 (Value.int IntKind.u64 (nc : Int)); refine (HT2.out _).mono ?_; rintro e w6 ⟨rfl, hg⟩; (have G6 := Lib.hid (G5.out.trans hg)); (obtain ⟨⟨_, x61, y61, _⟩, ⟨_, x62, y62, _⟩⟩ := B3.out.keep (G5.out.trans hg)); clear hg)
        | (go_at_call 35; refine (HLS.out _).mono ?_; rintro e w7 ⟨rfl, hg⟩; (have G7 := Lib.hid (G6.out.trans hg)); (obtain ⟨⟨_, x71, y71, _⟩, ⟨_, x72, y72, _⟩⟩ := B3.out.keep (G6.out.trans hg)); clear hg))
    have GW7 := Lib.hid (GW3.out.trans G7.out)
    go_wp2_with fail
    go_ret2
    exact ⟨rfl, GW7.out⟩
theorem compare_yes (a b c d : Int) (w : World) (hv : vld a b = true) (hv' : vld c d = true) :
    Calls Tryd.prog 18 #[.agg #[.int .i64 a, .int .i64 b], .agg #[.int .i64 c, .int .i64 d]] w fun e w' => e = .returned (.tuple #[.int .i64 (cmp a b c d), .int .i64 0]) ∧ Gr w w' := by
  obtain ⟨_, _, _, _⟩ := vld_iff.1 hv
  obtain ⟨_, _, _, _⟩ := vld_iff.1 hv'
  by_cases he : a = c ∧ b = d
  · rw [cmp_eq he]
    obtain ⟨rfl, rfl⟩ := he
    exact compare_eq a b w hv (by omega) (by omega) (by omega) (by omega)
  · by_cases hs : decide (a < 0) = decide (c < 0)
    · exact compare_same a b c d w hv hv' (by omega) (by omega) (by omega) (by omega) (by omega) (by omega) (by omega) (by omega) he hs
    · exact compare_diff a b c d w hv hv' (by omega) (by omega) (by omega) (by omega) (by omega) (by omega) (by omega) (by omega) hs

set_option maxHeartbeats 1000000 in
theorem floor_yes (a b : Int) (w : World) (hv : vld a b = true) :
    Calls Tryd.prog 20 #[.agg #[.int .i64 a, .int .i64 b]] w fun e w' => e = .returned (.tuple #[.int .i64 (flr a b), .int .i64 0]) ∧ Gr w w' := by
  obtain ⟨hb, hb', ha, _⟩ := vld_iff.1 hv
  have HV1 := Lib.hid (fun W => valid_at hv W (by omega) (by omega) (by omega) (by omega))
  have hf := flr_step a b hb
  have hq1 : (a.tdiv b).natAbs ≤ a.natAbs := by rw [Int.natAbs_tdiv]; exact Nat.div_le_self _ _
  have w1 : IntKind.i64.wrap (a.tdiv b) = a.tdiv b := IntWalk.i64_in _ (by omega)
  have w2 : wrap64 (a.tdiv b) = a.tdiv b := IntWalk.wrap64_in _ (by omega)
  have z1 : ¬ b = 0 := by omega
  have z2 : (b == 0) = false := by simp; omega
  clear hv
  generalize flr a b = C at *
  by_cases hm : a.tmod b < 0
  · have b1 : decide (a.tmod b < 0) = true := decide_eq_true hm
    rw [if_pos hm] at hf
    have HF := Lib.hid hf
    clear hf hm
    go_enter Tryd.func20, Tryd.ntmps20
    go_wp2_with fail
    refine (HV1.out _).mono ?_
    rintro e w3 ⟨rfl, hg⟩
    obtain ⟨s1, x1, y1, f1, e1⟩ := (Blk.made w (.int .i64 a) (.int .i64 b) 23).keep hg
    have HG := Lib.hid ((Gr.one _ _).trans hg)
    clear hg
    go_wp2_with fail
    go_ret2
    exact ⟨by rw [← HF.out]; rfl, HG.out⟩
  · have b1 : decide (a.tmod b < 0) = false := decide_eq_false hm
    rw [if_neg hm] at hf
    have HF := Lib.hid hf
    clear hf hm
    go_enter Tryd.func20, Tryd.ntmps20
    go_wp2_with fail
    refine (HV1.out _).mono ?_
    rintro e w3 ⟨rfl, hg⟩
    obtain ⟨s1, x1, y1, f1, e1⟩ := (Blk.made w (.int .i64 a) (.int .i64 b) 23).keep hg
    have HG := Lib.hid ((Gr.one _ _).trans hg)
    clear hg
    go_wp2_with fail
    go_ret2
    exact ⟨by rw [← HF.out, Int.sub_zero]; rfl, HG.out⟩
theorem floor_no (a b : Int) (w : World) (hv : vld a b = false) (h0 : -9223372036854775808 ≤ a) (h1 : a ≤ 9223372036854775807) (k0 : -9223372036854775808 ≤ b) (k1 : b ≤ 9223372036854775807) :
    Calls Tryd.prog 20 #[.agg #[.int .i64 a, .int .i64 b]] w fun e w' => e = .returned (.tuple #[.int .i64 0, .int .i64 1]) ∧ Gr w w' := by
  have HV1 := Lib.hid (fun W => valid_at hv W h0 h1 k0 k1)
  clear hv
  go_enter Tryd.func20, Tryd.ntmps20
  go_wp2_with fail
  refine (HV1.out _).mono ?_
  rintro e w3 ⟨rfl, hg⟩
  have HG := Lib.hid ((Gr.one _ _).trans hg)
  clear hg
  go_wp2_with fail
  go_ret2
  exact ⟨rfl, HG.out⟩
end Go.Proofs.YtdmddfhjfkdlnaaDoor
