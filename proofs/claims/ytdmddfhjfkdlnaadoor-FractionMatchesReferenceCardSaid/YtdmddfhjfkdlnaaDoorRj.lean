/- The contracts of the reference's Of, Floor and Mul. Under no condition but the types' own ranges. -/
import Derived.Test.YtdmddfhjfkdlnaaDoorRi
import Derived.Test.YtdmddfhjfkdlnaaDoorPv
namespace Go.Proofs.YtdmddfhjfkdlnaaDoor
open Go.RowKit

theorem lowest_r {neg : Bool} {A B : Option Addr} {n m c c' x y : Nat} {w : World} (hr : Sl w A n c x) (hr' : Sl w B m c' y) (hy : 0 < y) (hl : n ≤ 400) (hl' : m ≤ 400) {r : Rat} (h : r = Rat.divInt (if neg then -(x : Int) else x) y) {RN RD RE : Int} (hN : rN r = RN) (hD : rD r = RD) (hE : rE r = RE) :
    Calls Tryd.prog 31 #[.bool neg, .slice A n c, .slice B m c'] w fun e w' => e = .returned (.tuple #[.agg #[.int .i64 RN, .int .i64 RD], .int .i64 RE]) ∧ Below w.heap.size w w' := by
  have k := lowest_at hr hr' hy hl hl' h
  unfold fr at k
  rwa [hN, hD, hE] at k
theorem plus_sl {w : World} {A B : Option Addr} {n m c c' x y : Nat} (h : Sl w A n c x) (h' : Sl w B m c' y) (hl : n ≤ 1000) (hl' : m ≤ 1000) :
    Calls Tryd.prog 40 #[.slice A n c, .slice B m c'] w (GPost (x + y) w) := by
  have k := plus_any' A B c c' x y w h.2.2 h'.2.2 (by rw [← h.1]; exact hl) (by rw [← h'.1]; exact hl')
  rw [← h.1, ← h'.1] at k
  exact k.mono fun e w' q => q.sl
theorem Three.below {w w' : World} {b : Nat} {f1 f2 g1 g2 : Value} (h : Three w b f1 f2 g1 g2) (g : Below w.heap.size w w') : Three w' b f1 f2 g1 g2 := ⟨h.1.below g, h.2.1.below g, h.2.2.below g⟩
/-- two blocks of two numbers -/
def Duo (w : World) (b : Nat) (f1 f2 g1 g2 : Value) : Prop := Blk w b f1 f2 ∧ Blk w (b + 1) g1 g2
theorem Duo.keep {w w' : World} {b : Nat} {f1 f2 g1 g2 : Value} (h : Duo w b f1 f2 g1 g2) (g : Gr w w') : Duo w' b f1 f2 g1 g2 := ⟨h.1.keep g, h.2.keep g⟩
theorem Duo.below {w w' : World} {b : Nat} {f1 f2 g1 g2 : Value} (h : Duo w b f1 f2 g1 g2) (g : Below w.heap.size w w') : Duo w' b f1 f2 g1 g2 := ⟨h.1.below g, h.2.below g⟩
theorem Duo.made (w : World) (f1 f2 g1 g2 : Value) : Duo ((w.alloc (.cells #[f1, f2] 23)).alloc (.cells #[g1, g2] 23)) w.heap.size f1 f2 g1 g2 :=
  ⟨(Blk.made w f1 f2 23).keep (Gr.one _ _), Blk.at10 w g1 g2 23 _⟩
set_option maxHeartbeats 1000000 in
theorem rof_zero (n : Int) (w : World) : Calls Tryd.prog 11 #[.int .i64 n, .int .i64 0] w fun e w' => e = .returned (.tuple #[.agg #[.int .i64 0, .int .i64 0], .int .i64 14]) ∧ Below w.heap.size w w' := by
  go_enter Tryd.func11, Tryd.ntmps11
  go_wp2_with fail
  exact bodyPost_ret (v := .tuple #[.agg #[.int .i64 0, .int .i64 0], .int .i64 14]) (by simp [results, Tryd.results11, go_sem]) rfl ⟨rfl, (Gr.one _ _).below⟩
theorem of_ref {n d : Int} (sn sd neg : Bool) (h1 : decide (n < 0) = sn) (h2 : decide (d < 0) = sd) (hn : (sn != sd) = neg) :
    Rat.divInt n d = Rat.divInt (if neg then -((n.natAbs : Nat) : Int) else ((n.natAbs : Nat) : Int)) ((d.natAbs : Nat) : Int) := by
  subst hn h1 h2
  rw [abs_cast, abs_cast]
  by_cases c1 : n < 0 <;> by_cases c2 : d < 0 <;> simp only [c1, c2, decide_true, decide_false, bne_self_eq_false, Bool.bne_true, Bool.bne_false, Bool.not_false, if_true, if_false, Bool.false_eq_true, Int.neg_neg]
  · rw [Rat.neg_divInt_neg]
  · rw [← Rat.neg_divInt_neg]
set_option maxRecDepth 100000 in
set_option maxHeartbeats 2000000 in
theorem rof_core (n d RN RD RE : Int) (sn sd neg : Bool) (w : World) (h0 : -9223372036854775808 ≤ n) (h1 : n ≤ 9223372036854775807) (k0 : -9223372036854775808 ≤ d) (k1 : d ≤ 9223372036854775807) (hd : d ≠ 0) (d1 : decide (n < 0) = sn) (d2 : decide (d < 0) = sd) (hn : (sn != sd) = neg) (hN : rN (Rat.divInt n d) = RN) (hD : rD (Rat.divInt n d) = RD) (hE : rE (Rat.divInt n d) = RE) :
    Calls Tryd.prog 11 #[.int .i64 n, .int .i64 d] w fun e w' => e = .returned (.tuple #[.agg #[.int .i64 RN, .int .i64 RD], .int .i64 RE]) ∧ Below w.heap.size w w' := by
  have HR := Lib.hid (of_ref sn sd neg d1 d2 hn)
  have b0 : (d == 0) = false := by simp [hd]
  have Dn := Lib.hid (fun W => digits_sl n W h0 h1)
  have Dd := Lib.hid (fun W => digits_sl d W k0 k1)
  have Ln := Lib.hid (show (bin n.natAbs).length ≤ 400 by have := bin_len n.natAbs 64 (by omega); omega)
  have Ld := Lib.hid (show (bin d.natAbs).length ≤ 400 by have := bin_len d.natAbs 64 (by omega); omega)
  have HBD := Lib.hid (show 0 < d.natAbs by omega)
  have HN := Lib.hid hN
  have HD := Lib.hid hD
  have HE := Lib.hid hE
  have HNG := Lib.hid hn
  clear hN hD hE hn hd
  cases sn <;> cases sd
  all_goals
    have hn := HNG.out
    simp only [bne_self_eq_false, Bool.bne_true, Bool.bne_false, Bool.not_false] at hn
    subst hn
    have LW := Lib.hid (fun (W : World) (A0 B0 : Option Addr) (l0 m0 i0 j0 : Nat) (s1 : Sl W A0 l0 i0 (n.natAbs)) (s2 : Sl W B0 m0 j0 (d.natAbs)) (q1 : l0 ≤ 400) (q2 : m0 ≤ 400) => lowest_r s1 s2 HBD.out q1 q2 HR.out HN.out HD.out HE.out)
    go_enter Tryd.func11, Tryd.ntmps11
    go_wp2_with fail
    have R0 := Lib.hid (Blk.made w (.int .i64 0) (.int .i64 0) 23)
    have GW := Lib.hid (Gr.one w (.cells #[.int .i64 0, .int .i64 0] 23)).below
    generalize w.alloc (.cells #[.int .i64 0, .int .i64 0] 23) = W at *
    refine (Dn.out _).mono ?_
    rintro e w1 ⟨A1, n1, c1, rfl, s1, b1⟩
    have GW1 := Lib.hid (GW.out.trans (b1.mono GW.out.size))
    have R1 := Lib.hid (R0.out.below b1)
    have hn1 : n1 ≤ 400 := s1.le (Nat.le_refl _) Ln.out
    have S1 := Lib.hid s1
    clear s1 b1
    go_wp2_with fail
    refine (Dd.out _).mono ?_
    rintro e w2 ⟨A2, n2, c2, rfl, s2, b2⟩
    have GW2 := Lib.hid (GW1.out.trans (b2.mono GW1.out.size))
    have R2 := Lib.hid (R1.out.below b2)
    have hn2 : n2 ≤ 400 := s2.le (Nat.le_refl _) Ld.out
    have HL := Lib.hid (LW.out _ _ _ _ _ _ _ (S1.out.keep b2) s2 hn1 hn2)
    clear s2 b2
    go_wp2_with fail
    refine HL.out.mono ?_
    rintro e w3 ⟨rfl, b3⟩
    have GW3 := Lib.hid (GW2.out.trans (b3.mono GW2.out.size))
    obtain ⟨r1, r2, r3, r4, r5⟩ := R2.out.below b3
    clear b3
    go_wp2_with fail
    refine bodyPost_ret (v := .tuple #[.agg #[.int .i64 RN, .int .i64 RD], .int .i64 RE]) (by simp [results, Tryd.results11, go_sem, *]) rfl ⟨rfl, ?_⟩
    exact (GW3.out.setCell (Nat.le_refl _) _).setCell (Nat.le_refl _) _
theorem rof_at {n d RN RD RE : Int} (w : World) (h0 : -9223372036854775808 ≤ n) (h1 : n ≤ 9223372036854775807) (k0 : -9223372036854775808 ≤ d) (k1 : d ≤ 9223372036854775807) (hd : d ≠ 0) (hN : rN (Rat.divInt n d) = RN) (hD : rD (Rat.divInt n d) = RD) (hE : rE (Rat.divInt n d) = RE) :
    Calls Tryd.prog 11 #[.int .i64 n, .int .i64 d] w fun e w' => e = .returned (.tuple #[.agg #[.int .i64 RN, .int .i64 RD], .int .i64 RE]) ∧ Below w.heap.size w w' :=
  rof_core n d RN RD RE _ _ _ w h0 h1 k0 k1 hd rfl rfl rfl hN hD hE

set_option maxRecDepth 100000 in
set_option maxHeartbeats 2000000 in
theorem rfloor_at {a b C : Int} (w : World) (hv : vld a b = true) (hC : flr a b = C) :
    Calls Tryd.prog 21 #[.agg #[.int .i64 a, .int .i64 b]] w fun e w' => e = .returned (.tuple #[.int .i64 C, .int .i64 0]) ∧ Below w.heap.size w w' := by
  obtain ⟨hb, hb', ha, _⟩ := vld_iff.1 hv
  have HV1 := Lib.hid (fun W => rvalid_any a b W (by omega) (by omega) (by omega) (by omega))
  rw [hv] at HV1
  have hf := flr_ref a b hb
  rw [hC] at hf
  have hq1 : (a.tdiv b).natAbs ≤ a.natAbs := by rw [Int.natAbs_tdiv]; exact Nat.div_le_self _ _
  have hq2 : (a.tdiv b * b).natAbs ≤ a.natAbs := by rw [Int.natAbs_mul, Int.natAbs_tdiv]; exact Nat.div_mul_le_self _ _
  have w1 : IntKind.i64.wrap (a.tdiv b) = a.tdiv b := IntWalk.i64_in _ (by omega)
  have w2 : wrap64 (a.tdiv b) = a.tdiv b := IntWalk.wrap64_in _ (by omega)
  have w3 : IntKind.i64.wrap (a.tdiv b * b) = a.tdiv b * b := IntWalk.i64_in _ (by omega)
  have w4 : wrap64 (a.tdiv b * b) = a.tdiv b * b := IntWalk.wrap64_in _ (by omega)
  have w5 : wrap64 (a.tdiv b - 1) = a.tdiv b - 1 := IntWalk.wrap64_in _ (by omega)
  have z1 : ¬ b = 0 := by omega
  have z2 : (b == 0) = false := by simp; omega
  clear hv hC
  by_cases hm : a < a.tdiv b * b
  · have b1 : decide (a < a.tdiv b * b) = true := decide_eq_true hm
    rw [if_pos hm] at hf
    have HF := Lib.hid hf
    clear hf hm
    go_enter Tryd.func21, Tryd.ntmps21
    go_wp2_with fail
    refine (HV1.out _).mono ?_
    rintro e w3 ⟨rfl, hg⟩
    obtain ⟨s1, x1, y1, f1, e1⟩ := (Blk.made w (.int .i64 a) (.int .i64 b) 23).below hg
    have HG := Lib.hid ((Gr.one _ _).below.trans (hg.mono (Gr.one _ _).below.size))
    clear hg
    go_wp2_with fail
    go_ret2
    exact ⟨by rw [HF.out]; rfl, HG.out⟩
  · have b1 : decide (a < a.tdiv b * b) = false := decide_eq_false hm
    rw [if_neg hm] at hf
    have HF := Lib.hid hf
    clear hf hm
    go_enter Tryd.func21, Tryd.ntmps21
    go_wp2_with fail
    refine (HV1.out _).mono ?_
    rintro e w3 ⟨rfl, hg⟩
    obtain ⟨s1, x1, y1, f1, e1⟩ := (Blk.made w (.int .i64 a) (.int .i64 b) 23).below hg
    have HG := Lib.hid ((Gr.one _ _).below.trans (hg.mono (Gr.one _ _).below.size))
    clear hg
    go_wp2_with fail
    go_ret2
    exact ⟨by rw [HF.out]; rfl, HG.out⟩
theorem rfloor_no (a b : Int) (w : World) (hv : vld a b = false) (h0 : -9223372036854775808 ≤ a) (h1 : a ≤ 9223372036854775807) (k0 : -9223372036854775808 ≤ b) (k1 : b ≤ 9223372036854775807) :
    Calls Tryd.prog 21 #[.agg #[.int .i64 a, .int .i64 b]] w fun e w' => e = .returned (.tuple #[.int .i64 0, .int .i64 1]) ∧ Below w.heap.size w w' := by
  have HV1 := Lib.hid (fun W => rvalid_any a b W h0 h1 k0 k1)
  rw [hv] at HV1
  clear hv
  go_enter Tryd.func21, Tryd.ntmps21
  go_wp2_with fail
  refine (HV1.out _).mono ?_
  rintro e w3 ⟨rfl, hg⟩
  have HG := Lib.hid ((Gr.one _ _).below.trans (hg.mono (Gr.one _ _).below.size))
  clear hg
  go_wp2_with fail
  go_ret2
  exact ⟨rfl, HG.out⟩
set_option maxRecDepth 100000 in
set_option maxHeartbeats 8000000 in
theorem rmul_no (a b c d : Int) (w : World) (h0 : -9223372036854775808 ≤ a) (h1 : a ≤ 9223372036854775807) (k0 : -9223372036854775808 ≤ b) (k1 : b ≤ 9223372036854775807) (h2 : -9223372036854775808 ≤ c) (h3 : c ≤ 9223372036854775807) (k2 : -9223372036854775808 ≤ d) (k3 : d ≤ 9223372036854775807) (h : (vld a b && vld c d) = false) :
    Calls Tryd.prog 15 #[.agg #[.int .i64 a, .int .i64 b], .agg #[.int .i64 c, .int .i64 d]] w fun e w' => e = .returned (.tuple #[.agg #[.int .i64 0, .int .i64 0], .int .i64 1]) ∧ Below w.heap.size w w' := by
  have HV1 := Lib.hid (fun W => rvalid_any a b W h0 h1 k0 k1)
  have HV2 := Lib.hid (fun W => rvalid_any c d W h2 h3 k2 k3)
  generalize vld a b = v1 at *
  generalize vld c d = v2 at *
  cases v1 with
  | false =>
    clear h
    go_enter Tryd.func15, Tryd.ntmps15
    go_wp2_with fail
    have T := Lib.hid (Three.made w (.int .i64 a) (.int .i64 b) (.int .i64 c) (.int .i64 d))
    have BW := Lib.hid (((Gr.one w (.cells #[.int .i64 a, .int .i64 b] 23)).alloc (.cells #[.int .i64 c, .int .i64 d] 23)).alloc (.cells #[.int .i64 0, .int .i64 0] 23)).below
    generalize ((w.alloc (.cells #[.int .i64 a, .int .i64 b] 23)).alloc (.cells #[.int .i64 c, .int .i64 d] 23)).alloc (.cells #[.int .i64 0, .int .i64 0] 23) = W at *
    skip
    refine (HV1.out _).mono ?_
    rintro e w1 ⟨rfl, b1⟩
    (have T' := Lib.hid (T.out.below b1))
    (have BW' := Lib.hid (BW.out.trans (b1.mono BW.out.size)))
    clear T BW
    (have T := T')
    (have BW := BW')
    clear T' BW'
    (obtain ⟨⟨zs1, x1, y1, f1, e1⟩, ⟨zs2, x2, y2, f2, e2⟩, ⟨zs3, x3, y3, f3, e3⟩⟩ := T.out)
    clear b1
    go_wp2_with fail
    refine bodyPost_ret (v := .tuple #[.agg #[.int .i64 0, .int .i64 0], .int .i64 1]) (by simp [results, Tryd.results15, go_sem, *]) rfl ⟨rfl, ?_⟩
    exact (BW.out.setCell (by show _ ≤ w.heap.size + 1 + 1; omega) _).setCell (by show _ ≤ w.heap.size + 1 + 1; omega) _
  | true =>
    obtain rfl : v2 = false := by simpa using h
    clear h
    go_enter Tryd.func15, Tryd.ntmps15
    go_wp2_with fail
    have T := Lib.hid (Three.made w (.int .i64 a) (.int .i64 b) (.int .i64 c) (.int .i64 d))
    have BW := Lib.hid (((Gr.one w (.cells #[.int .i64 a, .int .i64 b] 23)).alloc (.cells #[.int .i64 c, .int .i64 d] 23)).alloc (.cells #[.int .i64 0, .int .i64 0] 23)).below
    generalize ((w.alloc (.cells #[.int .i64 a, .int .i64 b] 23)).alloc (.cells #[.int .i64 c, .int .i64 d] 23)).alloc (.cells #[.int .i64 0, .int .i64 0] 23) = W at *
    skip
    refine (HV1.out _).mono ?_
    rintro e w1 ⟨rfl, b1⟩
    (have T' := Lib.hid (T.out.below b1))
    (have BW' := Lib.hid (BW.out.trans (b1.mono BW.out.size)))
    clear T BW
    (have T := T')
    (have BW := BW')
    clear T' BW'
    (obtain ⟨⟨zs1, x1, y1, f1, e1⟩, ⟨zs2, x2, y2, f2, e2⟩, ⟨zs3, x3, y3, f3, e3⟩⟩ := T.out)
    clear b1
    go_wp2_with fail
    skip
    refine (HV2.out _).mono ?_
    rintro e w2 ⟨rfl, b2⟩
    (have T' := Lib.hid (T.out.below b2))
    (have BW' := Lib.hid (BW.out.trans (b2.mono BW.out.size)))
    clear T BW
    (have T := T')
    (have BW := BW')
    clear T' BW'
    (obtain ⟨⟨zs1, x1, y1, f1, e1⟩, ⟨zs2, x2, y2, f2, e2⟩, ⟨zs3, x3, y3, f3, e3⟩⟩ := T.out)
    clear b2
    go_wp2_with fail
    refine bodyPost_ret (v := .tuple #[.agg #[.int .i64 0, .int .i64 0], .int .i64 1]) (by simp [results, Tryd.results15, go_sem, *]) rfl ⟨rfl, ?_⟩
    exact (BW.out.setCell (by show _ ≤ w.heap.size + 1 + 1; omega) _).setCell (by show _ ≤ w.heap.size + 1 + 1; omega) _
set_option maxRecDepth 100000 in
set_option maxHeartbeats 8000000 in
theorem rmul_core (a b c d RN RD RE : Int) (sa sc neg : Bool) (w : World) (hv : vld a b = true) (hv' : vld c d = true) (d1 : decide (a < 0) = sa) (d2 : decide (c < 0) = sc) (hn : (sa != sc) = neg) (hN : rN (rat a b * rat c d) = RN) (hD : rD (rat a b * rat c d) = RD) (hE : rE (rat a b * rat c d) = RE) :
    Calls Tryd.prog 15 #[.agg #[.int .i64 a, .int .i64 b], .agg #[.int .i64 c, .int .i64 d]] w fun e w' => e = .returned (.tuple #[.agg #[.int .i64 RN, .int .i64 RD], .int .i64 RE]) ∧ Below w.heap.size w w' := by
  obtain ⟨hb, hb', ha, _⟩ := vld_iff.1 hv
  obtain ⟨hd, hd', hc, _⟩ := vld_iff.1 hv'
  have V1 := Lib.hid (fun W => rvalid_any a b W (by omega) (by omega) (by omega) (by omega))
  have V2 := Lib.hid (fun W => rvalid_any c d W (by omega) (by omega) (by omega) (by omega))
  rw [hv] at V1
  rw [hv'] at V2
  have Da := Lib.hid (fun W => digits_sl a W (by omega) (by omega))
  have Db := Lib.hid (fun W => digits_sl b W (by omega) (by omega))
  have Dc := Lib.hid (fun W => digits_sl c W (by omega) (by omega))
  have Dd := Lib.hid (fun W => digits_sl d W (by omega) (by omega))
  have La := Lib.hid (show (bin a.natAbs).length ≤ 400 by have := bin_len a.natAbs 64 (by omega); omega)
  have Lb := Lib.hid (show (bin b.natAbs).length ≤ 400 by have := bin_len b.natAbs 64 (by omega); omega)
  have Lc := Lib.hid (show (bin c.natAbs).length ≤ 400 by have := bin_len c.natAbs 64 (by omega); omega)
  have Ld := Lib.hid (show (bin d.natAbs).length ≤ 400 by have := bin_len d.natAbs 64 (by omega); omega)
  have LP : ∀ x y : Nat, x < 18446744073709551616 → y < 18446744073709551616 → (bin (x * y)).length ≤ 128 := fun x y h1 h2 => bin_len _ _ (by have := Nat.mul_lt_mul'' h1 h2; omega)
  have HR := Lib.hid (mul_ref hb hd sa sc neg d1 d2 hn)
  have HLN := Lib.hid (show (bin (a.natAbs * c.natAbs)).length ≤ 400 by have := LP a.natAbs c.natAbs (by omega) (by omega); omega)
  have HLD := Lib.hid (show (bin (b.natAbs * d.natAbs)).length ≤ 400 by have := LP b.natAbs d.natAbs (by omega) (by omega); omega)
  have hbd : 0 < b.natAbs * d.natAbs := Nat.mul_pos (by omega) (by omega)
  have HBD := Lib.hid hbd
  have HN := Lib.hid hN
  have HD := Lib.hid hD
  have HE := Lib.hid hE
  have HNG := Lib.hid hn
  clear hN hD hE hn LP hbd hv hv'
  cases sa <;> cases sc
  all_goals
    have hn := HNG.out
    simp only [bne_self_eq_false, Bool.bne_true, Bool.bne_false, Bool.not_false] at hn
    subst hn
    have LW := Lib.hid (fun (W : World) (A0 B0 : Option Addr) (l0 m0 i0 j0 : Nat) (s1 : Sl W A0 l0 i0 (a.natAbs * c.natAbs)) (s2 : Sl W B0 m0 j0 (b.natAbs * d.natAbs)) (q1 : l0 ≤ 400) (q2 : m0 ≤ 400) => lowest_r s1 s2 HBD.out q1 q2 HR.out HN.out HD.out HE.out)
    go_enter Tryd.func15, Tryd.ntmps15
    go_wp2_with fail
    have T := Lib.hid (Three.made w (.int .i64 a) (.int .i64 b) (.int .i64 c) (.int .i64 d))
    have BW := Lib.hid (((Gr.one w (.cells #[.int .i64 a, .int .i64 b] 23)).alloc (.cells #[.int .i64 c, .int .i64 d] 23)).alloc (.cells #[.int .i64 0, .int .i64 0] 23)).below
    generalize ((w.alloc (.cells #[.int .i64 a, .int .i64 b] 23)).alloc (.cells #[.int .i64 c, .int .i64 d] 23)).alloc (.cells #[.int .i64 0, .int .i64 0] 23) = W at *
    skip
    refine (V1.out _).mono ?_
    rintro e w1 ⟨rfl, b1⟩
    (have T' := Lib.hid (T.out.below b1))
    (have BW' := Lib.hid (BW.out.trans (b1.mono BW.out.size)))
    clear T BW
    (have T := T')
    (have BW := BW')
    clear T' BW'
    (obtain ⟨⟨zs1, x1, y1, f1, e1⟩, ⟨zs2, x2, y2, f2, e2⟩, ⟨zs3, x3, y3, f3, e3⟩⟩ := T.out)
    clear b1
    go_wp2_with fail
    skip
    refine (V2.out _).mono ?_
    rintro e w2 ⟨rfl, b2⟩
    (have T' := Lib.hid (T.out.below b2))
    (have BW' := Lib.hid (BW.out.trans (b2.mono BW.out.size)))
    clear T BW
    (have T := T')
    (have BW := BW')
    clear T' BW'
    (obtain ⟨⟨zs1, x1, y1, f1, e1⟩, ⟨zs2, x2, y2, f2, e2⟩, ⟨zs3, x3, y3, f3, e3⟩⟩ := T.out)
    clear b2
    go_wp2_with fail
    go_region_held3 (fun w' => w'.cell? ⟨w.heap.size, 0, none⟩ = some (.int .i64 a) ∧ w'.cell? ⟨w.heap.size, 1, none⟩ = some (.int .i64 b) ∧ w'.cell? ⟨w.heap.size + 1, 0, none⟩ = some (.int .i64 c) ∧ w'.cell? ⟨w.heap.size + 1, 1, none⟩ = some (.int .i64 d)) (first | (go_keep; done) | ((try dsimp only); refine ⟨?_, ?_, ?_, ?_⟩ <;> first | (simp [*]; done) | ((repeat (first | refine Lib.cell?_alloc_some _ ?_ | (rw [World.cell?_setCell_other _ _ _ _ (by intro e; injection e with e1 e2; omega)]))); simp [*]; done)))
      (first
        | (go_at_call_of 32 (Value.int IntKind.i64 a); refine (Da.out _).mono ?_; rintro e w3 ⟨A3, n3, c3, rfl, s3, b3⟩; (have T' := Lib.hid ((T.out.keep (Gr.drewn _)).below b3)); (have BW' := Lib.hid ((BW.out.trans ((Gr.drewn _).below.mono BW.out.size)).trans (b3.mono BW.out.size))); clear T BW; (have T := T'); (have BW := BW'); clear T' BW'; (obtain ⟨⟨zs1, x1, y1, f1, e1⟩, ⟨zs2, x2, y2, f2, e2⟩, ⟨zs3, x3, y3, f3, e3⟩⟩ := T.out); (have hn3 : n3 ≤ 400 := s3.le (Nat.le_refl _) La.out); (have S3 := Lib.hid s3); clear s3 b3)
        | (go_at_call_of 32 (Value.int IntKind.i64 c); refine (Dc.out _).mono ?_; rintro e w4 ⟨A4, n4, c4, rfl, s4, b4⟩; (have S3 := Lib.hid (S3.out.keep b4)); (have T' := Lib.hid (T.out.below b4)); (have BW' := Lib.hid (BW.out.trans (b4.mono BW.out.size))); clear T BW; (have T := T'); (have BW := BW'); clear T' BW'; (obtain ⟨⟨zs1, x1, y1, f1, e1⟩, ⟨zs2, x2, y2, f2, e2⟩, ⟨zs3, x3, y3, f3, e3⟩⟩ := T.out); (have hn4 : n4 ≤ 400 := s4.le (Nat.le_refl _) Lc.out); (have S4 := Lib.hid s4); clear s4 b4; (have HT4 := Lib.hid (times_sl S3.out S4.out hn3 hn4)))
        | (go_at_call_of 39 (Value.slice A3 n3 c3); refine (HT4.out).mono ?_; rintro e w5 ⟨A5, n5, c5, rfl, s5, b5⟩; (have T' := Lib.hid (T.out.below b5)); (have BW' := Lib.hid (BW.out.trans (b5.mono BW.out.size))); clear T BW; (have T := T'); (have BW := BW'); clear T' BW'; (obtain ⟨⟨zs1, x1, y1, f1, e1⟩, ⟨zs2, x2, y2, f2, e2⟩, ⟨zs3, x3, y3, f3, e3⟩⟩ := T.out); (have hn5 : n5 ≤ 400 := s5.le (Nat.le_refl _) HLN.out); (have S5 := Lib.hid s5); clear s5 b5)
        | (go_at_call_of 32 (Value.int IntKind.i64 b); refine (Db.out _).mono ?_; rintro e w6 ⟨A6, n6, c6, rfl, s6, b6⟩; (have S5 := Lib.hid (S5.out.keep b6)); (have T' := Lib.hid (T.out.below b6)); (have BW' := Lib.hid (BW.out.trans (b6.mono BW.out.size))); clear T BW; (have T := T'); (have BW := BW'); clear T' BW'; (obtain ⟨⟨zs1, x1, y1, f1, e1⟩, ⟨zs2, x2, y2, f2, e2⟩, ⟨zs3, x3, y3, f3, e3⟩⟩ := T.out); (have hn6 : n6 ≤ 400 := s6.le (Nat.le_refl _) Lb.out); (have S6 := Lib.hid s6); clear s6 b6)
        | (go_at_call_of 32 (Value.int IntKind.i64 d); refine (Dd.out _).mono ?_; rintro e w7 ⟨A7, n7, c7, rfl, s7, b7⟩; (have S5 := Lib.hid (S5.out.keep b7)); (have S6 := Lib.hid (S6.out.keep b7)); (have T' := Lib.hid (T.out.below b7)); (have BW' := Lib.hid (BW.out.trans (b7.mono BW.out.size))); clear T BW; (have T := T'); (have BW := BW'); clear T' BW'; (obtain ⟨⟨zs1, x1, y1, f1, e1⟩, ⟨zs2, x2, y2, f2, e2⟩, ⟨zs3, x3, y3, f3, e3⟩⟩ := T.out); (have hn7 : n7 ≤ 400 := s7.le (Nat.le_refl _) Ld.out); (have S7 := Lib.hid s7); clear s7 b7; (have HT7 := Lib.hid (times_sl S6.out S7.out hn6 hn7)))
        | (go_at_call_of 39 (Value.slice A6 n6 c6); refine (HT7.out).mono ?_; rintro e w8 ⟨A8, n8, c8, rfl, s8, b8⟩; (have S5 := Lib.hid (S5.out.keep b8)); (have T' := Lib.hid (T.out.below b8)); (have BW' := Lib.hid (BW.out.trans (b8.mono BW.out.size))); clear T BW; (have T := T'); (have BW := BW'); clear T' BW'; (obtain ⟨⟨zs1, x1, y1, f1, e1⟩, ⟨zs2, x2, y2, f2, e2⟩, ⟨zs3, x3, y3, f3, e3⟩⟩ := T.out); (have hn8 : n8 ≤ 400 := s8.le (Nat.le_refl _) HLD.out); (have S8 := Lib.hid s8); clear s8 b8; (have HL := Lib.hid (LW.out _ _ _ _ _ _ _ S5.out S8.out hn5 hn8)))
        | (go_at_call 31; refine (HL.out).mono ?_; rintro e w9 ⟨rfl, b9⟩; (have S5 := Lib.hid (S5.out.keep b9)); (have S8 := Lib.hid (S8.out.keep b9)); (have T' := Lib.hid (T.out.below b9)); (have BW' := Lib.hid (BW.out.trans (b9.mono BW.out.size))); clear T BW; (have T := T'); (have BW := BW'); clear T' BW'; (obtain ⟨⟨zs1, x1, y1, f1, e1⟩, ⟨zs2, x2, y2, f2, e2⟩, ⟨zs3, x3, y3, f3, e3⟩⟩ := T.out); clear b9))
    go_wp2_with fail
    refine bodyPost_ret (v := .tuple #[.agg #[.int .i64 RN, .int .i64 RD], .int .i64 RE]) (by simp [results, Tryd.results15, go_sem, *]) rfl ⟨rfl, ?_⟩
    exact (BW.out.setCell (by show _ ≤ w.heap.size + 1 + 1; omega) _).setCell (by show _ ≤ w.heap.size + 1 + 1; omega) _
theorem rmul_at {a b c d RN RD RE : Int} (w : World) (hv : vld a b = true) (hv' : vld c d = true) (hN : rN (rat a b * rat c d) = RN) (hD : rD (rat a b * rat c d) = RD) (hE : rE (rat a b * rat c d) = RE) :
    Calls Tryd.prog 15 #[.agg #[.int .i64 a, .int .i64 b], .agg #[.int .i64 c, .int .i64 d]] w fun e w' => e = .returned (.tuple #[.agg #[.int .i64 RN, .int .i64 RD], .int .i64 RE]) ∧ Below w.heap.size w w' :=
  rmul_core a b c d RN RD RE _ _ _ w hv hv' rfl rfl rfl hN hD hE
end Go.Proofs.YtdmddfhjfkdlnaaDoor
