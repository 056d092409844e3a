/- The contracts of the reference's Add. Under no condition but the types' own ranges. -/
import Derived.Test.YtdmddfhjfkdlnaaDoorRi
import Derived.Test.YtdmddfhjfkdlnaaDoorPv
import Derived.Test.YtdmddfhjfkdlnaaDoorRj
namespace Go.Proofs.YtdmddfhjfkdlnaaDoor
open Go.RowKit
set_option maxRecDepth 100000 in
set_option maxHeartbeats 8000000 in
theorem radd_no (a b c d : Int) (w : World) (h0 : -9223372036854775808 ≤ a) (h1 : a ≤ 9223372036854775807) (k0 : -9223372036854775808 ≤ b) (k1 : b ≤ 9223372036854775807) (h2 : -9223372036854775808 ≤ c) (h3 : c ≤ 9223372036854775807) (k2 : -9223372036854775808 ≤ d) (k3 : d ≤ 9223372036854775807) (h : (vld a b && vld c d) = false) :
    Calls Tryd.prog 13 #[.agg #[.int .i64 a, .int .i64 b], .agg #[.int .i64 c, .int .i64 d]] w fun e w' => e = .returned (.tuple #[.agg #[.int .i64 0, .int .i64 0], .int .i64 1]) ∧ Below w.heap.size w w' := by
  have HV1 := Lib.hid (fun W => rvalid_any a b W h0 h1 k0 k1)
  have HV2 := Lib.hid (fun W => rvalid_any c d W h2 h3 k2 k3)
  generalize vld a b = v1 at *
  generalize vld c d = v2 at *
  cases v1 with
  | false =>
    clear h
    go_enter Tryd.func13, Tryd.ntmps13
    go_wp2_with fail
    have T := Lib.hid (Three.made w (.int .i64 a) (.int .i64 b) (.int .i64 c) (.int .i64 d))
    have BW := Lib.hid (((Gr.one w (.cells #[.int .i64 a, .int .i64 b] 23)).alloc (.cells #[.int .i64 c, .int .i64 d] 23)).alloc (.cells #[.int .i64 0, .int .i64 0] 23)).below
    generalize ((w.alloc (.cells #[.int .i64 a, .int .i64 b] 23)).alloc (.cells #[.int .i64 c, .int .i64 d] 23)).alloc (.cells #[.int .i64 0, .int .i64 0] 23) = W at *
    skip
    refine (HV1.out _).mono ?_
    rintro e w1 ⟨rfl, b1⟩
    (have T' := Lib.hid (T.out.below b1))
    (have BW' := Lib.hid (BW.out.trans (b1.mono BW.out.size)))
    clear T BW
    (have T := T')
    (have BW := BW')
    clear T' BW'
    (obtain ⟨⟨zs1, x1, y1, f1, e1⟩, ⟨zs2, x2, y2, f2, e2⟩, ⟨zs3, x3, y3, f3, e3⟩⟩ := T.out)
    clear b1
    go_wp2_with fail
    refine bodyPost_ret (v := .tuple #[.agg #[.int .i64 0, .int .i64 0], .int .i64 1]) (by simp [results, Tryd.results13, go_sem, *]) rfl ⟨rfl, ?_⟩
    exact (BW.out.setCell (by show _ ≤ w.heap.size + 1 + 1; omega) _).setCell (by show _ ≤ w.heap.size + 1 + 1; omega) _
  | true =>
    obtain rfl : v2 = false := by simpa using h
    clear h
    go_enter Tryd.func13, Tryd.ntmps13
    go_wp2_with fail
    have T := Lib.hid (Three.made w (.int .i64 a) (.int .i64 b) (.int .i64 c) (.int .i64 d))
    have BW := Lib.hid (((Gr.one w (.cells #[.int .i64 a, .int .i64 b] 23)).alloc (.cells #[.int .i64 c, .int .i64 d] 23)).alloc (.cells #[.int .i64 0, .int .i64 0] 23)).below
    generalize ((w.alloc (.cells #[.int .i64 a, .int .i64 b] 23)).alloc (.cells #[.int .i64 c, .int .i64 d] 23)).alloc (.cells #[.int .i64 0, .int .i64 0] 23) = W at *
    skip
    refine (HV1.out _).mono ?_
    rintro e w1 ⟨rfl, b1⟩
    (have T' := Lib.hid (T.out.below b1))
    (have BW' := Lib.hid (BW.out.trans (b1.mono BW.out.size)))
    clear T BW
    (have T := T')
    (have BW := BW')
    clear T' BW'
    (obtain ⟨⟨zs1, x1, y1, f1, e1⟩, ⟨zs2, x2, y2, f2, e2⟩, ⟨zs3, x3, y3, f3, e3⟩⟩ := T.out)
    clear b1
    go_wp2_with fail
    skip
    refine (HV2.out _).mono ?_
    rintro e w2 ⟨rfl, b2⟩
    (have T' := Lib.hid (T.out.below b2))
    (have BW' := Lib.hid (BW.out.trans (b2.mono BW.out.size)))
    clear T BW
    (have T := T')
    (have BW := BW')
    clear T' BW'
    (obtain ⟨⟨zs1, x1, y1, f1, e1⟩, ⟨zs2, x2, y2, f2, e2⟩, ⟨zs3, x3, y3, f3, e3⟩⟩ := T.out)
    clear b2
    go_wp2_with fail
    refine bodyPost_ret (v := .tuple #[.agg #[.int .i64 0, .int .i64 0], .int .i64 1]) (by simp [results, Tryd.results13, go_sem, *]) rfl ⟨rfl, ?_⟩
    exact (BW.out.setCell (by show _ ≤ w.heap.size + 1 + 1; omega) _).setCell (by show _ ≤ w.heap.size + 1 + 1; omega) _
set_option maxRecDepth 100000 in
set_option maxHeartbeats 8000000 in
theorem radd_same (a b c d RN RD RE : Int) (s : Bool) (w : World) (hv : vld a b = true) (hv' : vld c d = true) (d1 : decide (a < 0) = s) (d2 : decide (c < 0) = s) (hN : rN (rat a b + rat c d) = RN) (hD : rD (rat a b + rat c d) = RD) (hE : rE (rat a b + rat c d) = RE) :
    Calls Tryd.prog 13 #[.agg #[.int .i64 a, .int .i64 b], .agg #[.int .i64 c, .int .i64 d]] w fun e w' => e = .returned (.tuple #[.agg #[.int .i64 RN, .int .i64 RD], .int .i64 RE]) ∧ Below w.heap.size w w' := by
  obtain ⟨hb, hb', ha, _⟩ := vld_iff.1 hv
  obtain ⟨hd, hd', hc, _⟩ := vld_iff.1 hv'
  have V1 := Lib.hid (fun W => rvalid_any a b W (by omega) (by omega) (by omega) (by omega))
  have V2 := Lib.hid (fun W => rvalid_any c d W (by omega) (by omega) (by omega) (by omega))
  rw [hv] at V1
  rw [hv'] at V2
  have Da := Lib.hid (fun W => digits_sl a W (by omega) (by omega))
  have Db := Lib.hid (fun W => digits_sl b W (by omega) (by omega))
  have Dc := Lib.hid (fun W => digits_sl c W (by omega) (by omega))
  have Dd := Lib.hid (fun W => digits_sl d W (by omega) (by omega))
  have La := Lib.hid (show (bin a.natAbs).length ≤ 400 by have := bin_len a.natAbs 64 (by omega); omega)
  have Lb := Lib.hid (show (bin b.natAbs).length ≤ 400 by have := bin_len b.natAbs 64 (by omega); omega)
  have Lc := Lib.hid (show (bin c.natAbs).length ≤ 400 by have := bin_len c.natAbs 64 (by omega); omega)
  have Ld := Lib.hid (show (bin d.natAbs).length ≤ 400 by have := bin_len d.natAbs 64 (by omega); omega)
  have LP : ∀ x y : Nat, x < 18446744073709551616 → y < 18446744073709551616 → (bin (x * y)).length ≤ 128 := fun x y h1 h2 => bin_len _ _ (by have := Nat.mul_lt_mul'' h1 h2; omega)
  have HLP := Lib.hid (show (bin (a.natAbs * d.natAbs)).length ≤ 199 by have := LP a.natAbs d.natAbs (by omega) (by omega); omega)
  have HLQ := Lib.hid (show (bin (c.natAbs * b.natAbs)).length ≤ 199 by have := LP c.natAbs b.natAbs (by omega) (by omega); omega)
  have HLD := Lib.hid (show (bin (b.natAbs * d.natAbs)).length ≤ 400 by have := LP b.natAbs d.natAbs (by omega) (by omega); omega)
  have HBD := Lib.hid (show 0 < b.natAbs * d.natAbs from Nat.mul_pos (by omega) (by omega))
  have HN := Lib.hid hN
  have HD := Lib.hid hD
  have HE := Lib.hid hE
  have HR := Lib.hid (add_ref_same hb hd s d1 d2)
  clear hN hD hE LP hv hv'
  generalize hP : a.natAbs * d.natAbs = P at *
  generalize hQ : c.natAbs * b.natAbs = Q at *
  generalize hDD : b.natAbs * d.natAbs = DD at *
  have HP := Lib.hid hP
  have HQ := Lib.hid hQ
  have HDD := Lib.hid hDD
  clear hP hQ hDD
  have HLS := Lib.hid (show (bin (P + Q)).length ≤ 400 from Nat.le_trans (bin_len (P + Q) 200 (by have h1 := val_lt (bin P) (bin_dg P); have h2 := val_lt (bin Q) (bin_dg Q); rw [val_bin] at h1 h2; have h3 := Nat.pow_le_pow_right (n := 2) (by decide) HLP.out; have h4 := Nat.pow_le_pow_right (n := 2) (by decide) HLQ.out; have h5 : (2 : Nat) ^ 200 = 2 ^ 199 * 2 := Nat.pow_succ ..; omega)) (by omega))
  cases s
  all_goals
    have LW := Lib.hid (fun (W : World) (A0 B0 : Option Addr) (l0 m0 i0 j0 : Nat) (s1 : Sl W A0 l0 i0 (P + Q)) (s2 : Sl W B0 m0 j0 (DD)) (q1 : l0 ≤ 400) (q2 : m0 ≤ 400) => lowest_r s1 s2 HBD.out q1 q2 HR.out HN.out HD.out HE.out)
    go_enter Tryd.func13, Tryd.ntmps13
    go_wp2_with fail
    have T := Lib.hid (Three.made w (.int .i64 a) (.int .i64 b) (.int .i64 c) (.int .i64 d))
    have BW := Lib.hid (((Gr.one w (.cells #[.int .i64 a, .int .i64 b] 23)).alloc (.cells #[.int .i64 c, .int .i64 d] 23)).alloc (.cells #[.int .i64 0, .int .i64 0] 23)).below
    generalize ((w.alloc (.cells #[.int .i64 a, .int .i64 b] 23)).alloc (.cells #[.int .i64 c, .int .i64 d] 23)).alloc (.cells #[.int .i64 0, .int .i64 0] 23) = W at *
    skip
    refine (V1.out _).mono ?_
    rintro e w1 ⟨rfl, b1⟩
    (have T' := Lib.hid (T.out.below b1))
    (have BW' := Lib.hid (BW.out.trans (b1.mono BW.out.size)))
    clear T BW
    (have T := T')
    (have BW := BW')
    clear T' BW'
    (obtain ⟨⟨zs1, x1, y1, f1, e1⟩, ⟨zs2, x2, y2, f2, e2⟩, ⟨zs3, x3, y3, f3, e3⟩⟩ := T.out)
    clear b1
    go_wp2_with fail
    skip
    refine (V2.out _).mono ?_
    rintro e w2 ⟨rfl, b2⟩
    (have T' := Lib.hid (T.out.below b2))
    (have BW' := Lib.hid (BW.out.trans (b2.mono BW.out.size)))
    clear T BW
    (have T := T')
    (have BW := BW')
    clear T' BW'
    (obtain ⟨⟨zs1, x1, y1, f1, e1⟩, ⟨zs2, x2, y2, f2, e2⟩, ⟨zs3, x3, y3, f3, e3⟩⟩ := T.out)
    clear b2
    go_wp2_with fail
    go_region_held3 (fun w' => w'.cell? ⟨w.heap.size, 0, none⟩ = some (.int .i64 a) ∧ w'.cell? ⟨w.heap.size, 1, none⟩ = some (.int .i64 b) ∧ w'.cell? ⟨w.heap.size + 1, 0, none⟩ = some (.int .i64 c) ∧ w'.cell? ⟨w.heap.size + 1, 1, none⟩ = some (.int .i64 d)) (first | (go_keep; done) | ((try dsimp only); refine ⟨?_, ?_, ?_, ?_⟩ <;> first | (simp [*]; done) | ((repeat (first | refine Lib.cell?_alloc_some _ ?_ | (rw [World.cell?_setCell_other _ _ _ _ (by intro e; injection e with e1 e2; omega)]))); simp [*]; done)))
      (first
        | (go_at_call_of 32 (Value.int IntKind.i64 a); refine (Da.out _).mono ?_; rintro e w3 ⟨A3, n3, c3, rfl, s3, b3⟩; (have T' := Lib.hid ((T.out.keep (Gr.drewn _)).below b3)); (have BW' := Lib.hid ((BW.out.trans ((Gr.drewn _).below.mono BW.out.size)).trans (b3.mono BW.out.size))); clear T BW; (have T := T'); (have BW := BW'); clear T' BW'; (obtain ⟨⟨zs1, x1, y1, f1, e1⟩, ⟨zs2, x2, y2, f2, e2⟩, ⟨zs3, x3, y3, f3, e3⟩⟩ := T.out); (have hn3 : n3 ≤ 400 := s3.le (Nat.le_refl _) La.out); (have S3 := Lib.hid s3); clear s3 b3)
        | (go_at_call_of 32 (Value.int IntKind.i64 d); refine (Dd.out _).mono ?_; rintro e w4 ⟨A4, n4, c4, rfl, s4, b4⟩; (have S3 := Lib.hid (S3.out.keep b4)); (have T' := Lib.hid (T.out.below b4)); (have BW' := Lib.hid (BW.out.trans (b4.mono BW.out.size))); clear T BW; (have T := T'); (have BW := BW'); clear T' BW'; (obtain ⟨⟨zs1, x1, y1, f1, e1⟩, ⟨zs2, x2, y2, f2, e2⟩, ⟨zs3, x3, y3, f3, e3⟩⟩ := T.out); (have hn4 : n4 ≤ 400 := s4.le (Nat.le_refl _) Ld.out); (have S4 := Lib.hid s4); clear s4 b4; (have HT4 := Lib.hid (times_sl S3.out S4.out hn3 hn4)))
        | (go_at_call_of 39 (Value.slice A3 n3 c3); refine (HT4.out).mono ?_; rintro e w5 ⟨A5, n5, c5, rfl, s5, b5⟩; (have T' := Lib.hid (T.out.below b5)); (have BW' := Lib.hid (BW.out.trans (b5.mono BW.out.size))); clear T BW; (have T := T'); (have BW := BW'); clear T' BW'; (obtain ⟨⟨zs1, x1, y1, f1, e1⟩, ⟨zs2, x2, y2, f2, e2⟩, ⟨zs3, x3, y3, f3, e3⟩⟩ := T.out); (have hn5 : n5 ≤ 400 := s5.le (Nat.le_refl _) (by rw [HP.out]; exact (Nat.le_trans HLP.out (by omega)))); (have S5 := Lib.hid s5); clear s5 b5))
    rw [HP.out] at S5
    go_wp2_with fail
    go_region_held3 (fun w' => w'.cell? ⟨w.heap.size, 0, none⟩ = some (.int .i64 a) ∧ w'.cell? ⟨w.heap.size, 1, none⟩ = some (.int .i64 b) ∧ w'.cell? ⟨w.heap.size + 1, 0, none⟩ = some (.int .i64 c) ∧ w'.cell? ⟨w.heap.size + 1, 1, none⟩ = some (.int .i64 d)) (first | (go_keep; done) | ((try dsimp only); refine ⟨?_, ?_, ?_, ?_⟩ <;> first | (simp [*]; done) | ((repeat (first | refine Lib.cell?_alloc_some _ ?_ | (rw [World.cell?_setCell_other _ _ _ _ (by intro e; injection e with e1 e2; omega)]))); simp [*]; done)))
      (first
        | (go_at_call_of 32 (Value.int IntKind.i64 c); refine (Dc.out _).mono ?_; rintro e w6 ⟨A6, n6, c6, rfl, s6, b6⟩; (have S5 := Lib.hid ((S5.out.keep (Gr.drewn _).below).keep b6)); (have T' := Lib.hid ((T.out.keep (Gr.drewn _)).below b6)); (have BW' := Lib.hid ((BW.out.trans ((Gr.drewn _).below.mono BW.out.size)).trans (b6.mono BW.out.size))); clear T BW; (have T := T'); (have BW := BW'); clear T' BW'; (obtain ⟨⟨zs1, x1, y1, f1, e1⟩, ⟨zs2, x2, y2, f2, e2⟩, ⟨zs3, x3, y3, f3, e3⟩⟩ := T.out); (have hn6 : n6 ≤ 400 := s6.le (Nat.le_refl _) Lc.out); (have S6 := Lib.hid s6); clear s6 b6)
        | (go_at_call_of 32 (Value.int IntKind.i64 b); refine (Db.out _).mono ?_; rintro e w7 ⟨A7, n7, c7, rfl, s7, b7⟩; (have S5 := Lib.hid (S5.out.keep b7)); (have S6 := Lib.hid (S6.out.keep b7)); (have T' := Lib.hid (T.out.below b7)); (have BW' := Lib.hid (BW.out.trans (b7.mono BW.out.size))); clear T BW; (have T := T'); (have BW := BW'); clear T' BW'; (obtain ⟨⟨zs1, x1, y1, f1, e1⟩, ⟨zs2, x2, y2, f2, e2⟩, ⟨zs3, x3, y3, f3, e3⟩⟩ := T.out); (have hn7 : n7 ≤ 400 := s7.le (Nat.le_refl _) Lb.out); (have S7 := Lib.hid s7); clear s7 b7; (have HT7 := Lib.hid (times_sl S6.out S7.out hn6 hn7)))
        | (go_at_call_of 39 (Value.slice A6 n6 c6); refine (HT7.out).mono ?_; rintro e w8 ⟨A8, n8, c8, rfl, s8, b8⟩; (have S5 := Lib.hid (S5.out.keep b8)); (have T' := Lib.hid (T.out.below b8)); (have BW' := Lib.hid (BW.out.trans (b8.mono BW.out.size))); clear T BW; (have T := T'); (have BW := BW'); clear T' BW'; (obtain ⟨⟨zs1, x1, y1, f1, e1⟩, ⟨zs2, x2, y2, f2, e2⟩, ⟨zs3, x3, y3, f3, e3⟩⟩ := T.out); (have hn8 : n8 ≤ 400 := s8.le (Nat.le_refl _) (by rw [HQ.out]; exact (Nat.le_trans HLQ.out (by omega)))); (have S8 := Lib.hid s8); clear s8 b8))
    rw [HQ.out] at S8
    go_wp2_with fail
    go_region_held3 (fun w' => w'.cell? ⟨w.heap.size, 0, none⟩ = some (.int .i64 a) ∧ w'.cell? ⟨w.heap.size, 1, none⟩ = some (.int .i64 b) ∧ w'.cell? ⟨w.heap.size + 1, 0, none⟩ = some (.int .i64 c) ∧ w'.cell? ⟨w.heap.size + 1, 1, none⟩ = some (.int .i64 d)) (first | (go_keep; done) | ((try dsimp only); refine ⟨?_, ?_, ?_, ?_⟩ <;> first | (simp [*]; done) | ((repeat (first | refine Lib.cell?_alloc_some _ ?_ | (rw [World.cell?_setCell_other _ _ _ _ (by intro e; injection e with e1 e2; omega)]))); simp [*]; done)))
      (first
        | (go_at_call_of 32 (Value.int IntKind.i64 b); refine (Db.out _).mono ?_; rintro e w9 ⟨A9, n9, c9, rfl, s9, b9⟩; (have S5 := Lib.hid ((S5.out.keep (Gr.drewn _).below).keep b9)); (have S8 := Lib.hid ((S8.out.keep (Gr.drewn _).below).keep b9)); (have T' := Lib.hid ((T.out.keep (Gr.drewn _)).below b9)); (have BW' := Lib.hid ((BW.out.trans ((Gr.drewn _).below.mono BW.out.size)).trans (b9.mono BW.out.size))); clear T BW; (have T := T'); (have BW := BW'); clear T' BW'; (obtain ⟨⟨zs1, x1, y1, f1, e1⟩, ⟨zs2, x2, y2, f2, e2⟩, ⟨zs3, x3, y3, f3, e3⟩⟩ := T.out); (have hn9 : n9 ≤ 400 := s9.le (Nat.le_refl _) Lb.out); (have S9 := Lib.hid s9); clear s9 b9)
        | (go_at_call_of 32 (Value.int IntKind.i64 d); refine (Dd.out _).mono ?_; rintro e w10 ⟨A10, n10, c10, rfl, s10, b10⟩; (have S5 := Lib.hid (S5.out.keep b10)); (have S8 := Lib.hid (S8.out.keep b10)); (have S9 := Lib.hid (S9.out.keep b10)); (have T' := Lib.hid (T.out.below b10)); (have BW' := Lib.hid (BW.out.trans (b10.mono BW.out.size))); clear T BW; (have T := T'); (have BW := BW'); clear T' BW'; (obtain ⟨⟨zs1, x1, y1, f1, e1⟩, ⟨zs2, x2, y2, f2, e2⟩, ⟨zs3, x3, y3, f3, e3⟩⟩ := T.out); (have hn10 : n10 ≤ 400 := s10.le (Nat.le_refl _) Ld.out); (have S10 := Lib.hid s10); clear s10 b10; (have HT10 := Lib.hid (times_sl S9.out S10.out hn9 hn10)))
        | (go_at_call_of 39 (Value.slice A9 n9 c9); refine (HT10.out).mono ?_; rintro e w11 ⟨A11, n11, c11, rfl, s11, b11⟩; (have S5 := Lib.hid (S5.out.keep b11)); (have S8 := Lib.hid (S8.out.keep b11)); (have T' := Lib.hid (T.out.below b11)); (have BW' := Lib.hid (BW.out.trans (b11.mono BW.out.size))); clear T BW; (have T := T'); (have BW := BW'); clear T' BW'; (obtain ⟨⟨zs1, x1, y1, f1, e1⟩, ⟨zs2, x2, y2, f2, e2⟩, ⟨zs3, x3, y3, f3, e3⟩⟩ := T.out); (have hn11 : n11 ≤ 400 := s11.le (Nat.le_refl _) (by rw [HDD.out]; exact HLD.out)); (have S11 := Lib.hid s11); clear s11 b11))
    rw [HDD.out] at S11
    have HPL := Lib.hid (plus_sl (S5.out.keep (Gr.drewn _).below) (S8.out.keep (Gr.drewn _).below) (by omega) (by omega))
    go_wp2_with fail
    go_region_held3 (fun w' => w'.cell? ⟨w.heap.size, 0, none⟩ = some (.int .i64 a) ∧ w'.cell? ⟨w.heap.size, 1, none⟩ = some (.int .i64 b) ∧ w'.cell? ⟨w.heap.size + 1, 0, none⟩ = some (.int .i64 c) ∧ w'.cell? ⟨w.heap.size + 1, 1, none⟩ = some (.int .i64 d)) (first | (go_keep; done) | ((try dsimp only); refine ⟨?_, ?_, ?_, ?_⟩ <;> first | (simp [*]; done) | ((repeat (first | refine Lib.cell?_alloc_some _ ?_ | (rw [World.cell?_setCell_other _ _ _ _ (by intro e; injection e with e1 e2; omega)]))); simp [*]; done)))
      (first
        | (go_at_call 40; refine (HPL.out).mono ?_; rintro e w12 ⟨A12, n12, c12, rfl, s12, b12⟩; (have S5 := Lib.hid ((S5.out.keep (Gr.drewn _).below).keep b12)); (have S8 := Lib.hid ((S8.out.keep (Gr.drewn _).below).keep b12)); (have S11 := Lib.hid ((S11.out.keep (Gr.drewn _).below).keep b12)); (have T' := Lib.hid ((T.out.keep (Gr.drewn _)).below b12)); (have BW' := Lib.hid ((BW.out.trans ((Gr.drewn _).below.mono BW.out.size)).trans (b12.mono BW.out.size))); clear T BW; (have T := T'); (have BW := BW'); clear T' BW'; (obtain ⟨⟨zs1, x1, y1, f1, e1⟩, ⟨zs2, x2, y2, f2, e2⟩, ⟨zs3, x3, y3, f3, e3⟩⟩ := T.out); (have hn12 : n12 ≤ 400 := s12.le (Nat.le_refl _) HLS.out); (have S12 := Lib.hid s12); clear s12 b12; (have HL := Lib.hid (LW.out _ _ _ _ _ _ _ S12.out S11.out hn12 hn11)))
        | (go_at_call 31; refine (HL.out).mono ?_; rintro e w13 ⟨rfl, b13⟩; (have S5 := Lib.hid (S5.out.keep b13)); (have S8 := Lib.hid (S8.out.keep b13)); (have S11 := Lib.hid (S11.out.keep b13)); (have S12 := Lib.hid (S12.out.keep b13)); (have T' := Lib.hid (T.out.below b13)); (have BW' := Lib.hid (BW.out.trans (b13.mono BW.out.size))); clear T BW; (have T := T'); (have BW := BW'); clear T' BW'; (obtain ⟨⟨zs1, x1, y1, f1, e1⟩, ⟨zs2, x2, y2, f2, e2⟩, ⟨zs3, x3, y3, f3, e3⟩⟩ := T.out); clear b13))
    go_wp2_with fail
    refine bodyPost_ret (v := .tuple #[.agg #[.int .i64 RN, .int .i64 RD], .int .i64 RE]) (by simp [results, Tryd.results13, go_sem, *]) rfl ⟨rfl, ?_⟩
    exact (BW.out.setCell (by show _ ≤ w.heap.size + 1 + 1; omega) _).setCell (by show _ ≤ w.heap.size + 1 + 1; omega) _
set_option maxRecDepth 100000 in
set_option maxHeartbeats 8000000 in
theorem radd_less (a b c d RN RD RE : Int) (sa sc : Bool) (w : World) (hv : vld a b = true) (hv' : vld c d = true) (d1 : decide (a < 0) = sa) (d2 : decide (c < 0) = sc) (hne : sa ≠ sc) (hlt : a.natAbs * d.natAbs < c.natAbs * b.natAbs) (hN : rN (rat a b + rat c d) = RN) (hD : rD (rat a b + rat c d) = RD) (hE : rE (rat a b + rat c d) = RE) :
    Calls Tryd.prog 13 #[.agg #[.int .i64 a, .int .i64 b], .agg #[.int .i64 c, .int .i64 d]] w fun e w' => e = .returned (.tuple #[.agg #[.int .i64 RN, .int .i64 RD], .int .i64 RE]) ∧ Below w.heap.size w w' := by
  obtain ⟨hb, hb', ha, _⟩ := vld_iff.1 hv
  obtain ⟨hd, hd', hc, _⟩ := vld_iff.1 hv'
  have V1 := Lib.hid (fun W => rvalid_any a b W (by omega) (by omega) (by omega) (by omega))
  have V2 := Lib.hid (fun W => rvalid_any c d W (by omega) (by omega) (by omega) (by omega))
  rw [hv] at V1
  rw [hv'] at V2
  have Da := Lib.hid (fun W => digits_sl a W (by omega) (by omega))
  have Db := Lib.hid (fun W => digits_sl b W (by omega) (by omega))
  have Dc := Lib.hid (fun W => digits_sl c W (by omega) (by omega))
  have Dd := Lib.hid (fun W => digits_sl d W (by omega) (by omega))
  have La := Lib.hid (show (bin a.natAbs).length ≤ 400 by have := bin_len a.natAbs 64 (by omega); omega)
  have Lb := Lib.hid (show (bin b.natAbs).length ≤ 400 by have := bin_len b.natAbs 64 (by omega); omega)
  have Lc := Lib.hid (show (bin c.natAbs).length ≤ 400 by have := bin_len c.natAbs 64 (by omega); omega)
  have Ld := Lib.hid (show (bin d.natAbs).length ≤ 400 by have := bin_len d.natAbs 64 (by omega); omega)
  have LP : ∀ x y : Nat, x < 18446744073709551616 → y < 18446744073709551616 → (bin (x * y)).length ≤ 128 := fun x y h1 h2 => bin_len _ _ (by have := Nat.mul_lt_mul'' h1 h2; omega)
  have HLP := Lib.hid (show (bin (a.natAbs * d.natAbs)).length ≤ 199 by have := LP a.natAbs d.natAbs (by omega) (by omega); omega)
  have HLQ := Lib.hid (show (bin (c.natAbs * b.natAbs)).length ≤ 199 by have := LP c.natAbs b.natAbs (by omega) (by omega); omega)
  have HLD := Lib.hid (show (bin (b.natAbs * d.natAbs)).length ≤ 400 by have := LP b.natAbs d.natAbs (by omega) (by omega); omega)
  have HBD := Lib.hid (show 0 < b.natAbs * d.natAbs from Nat.mul_pos (by omega) (by omega))
  have HN := Lib.hid hN
  have HD := Lib.hid hD
  have HE := Lib.hid hE
  have HR := Lib.hid ((add_ref_diff hb hd sa sc d1 d2 hne).1 hlt)
  clear hN hD hE LP hv hv'
  generalize hP : a.natAbs * d.natAbs = P at *
  generalize hQ : c.natAbs * b.natAbs = Q at *
  generalize hDD : b.natAbs * d.natAbs = DD at *
  have HP := Lib.hid hP
  have HQ := Lib.hid hQ
  have HDD := Lib.hid hDD
  clear hP hQ hDD
  have HLS := Lib.hid (show (bin (Q - P)).length ≤ 400 by have := bin_len_le (Nat.sub_le Q P); have := HLQ.out; omega)
  have HLT := Lib.hid (show decide (P < Q) = true from decide_eq_true hlt)
  have hle : P ≤ Q := by omega
  clear hlt
  cases sa <;> cases sc
  all_goals first | exact absurd rfl hne | skip
  all_goals
    clear hne
    have LW := Lib.hid (fun (W : World) (A0 B0 : Option Addr) (l0 m0 i0 j0 : Nat) (s1 : Sl W A0 l0 i0 (Q - P)) (s2 : Sl W B0 m0 j0 (DD)) (q1 : l0 ≤ 400) (q2 : m0 ≤ 400) => lowest_r s1 s2 HBD.out q1 q2 HR.out HN.out HD.out HE.out)
    go_enter Tryd.func13, Tryd.ntmps13
    go_wp2_with fail
    have T := Lib.hid (Three.made w (.int .i64 a) (.int .i64 b) (.int .i64 c) (.int .i64 d))
    have BW := Lib.hid (((Gr.one w (.cells #[.int .i64 a, .int .i64 b] 23)).alloc (.cells #[.int .i64 c, .int .i64 d] 23)).alloc (.cells #[.int .i64 0, .int .i64 0] 23)).below
    generalize ((w.alloc (.cells #[.int .i64 a, .int .i64 b] 23)).alloc (.cells #[.int .i64 c, .int .i64 d] 23)).alloc (.cells #[.int .i64 0, .int .i64 0] 23) = W at *
    skip
    refine (V1.out _).mono ?_
    rintro e w1 ⟨rfl, b1⟩
    (have T' := Lib.hid (T.out.below b1))
    (have BW' := Lib.hid (BW.out.trans (b1.mono BW.out.size)))
    clear T BW
    (have T := T')
    (have BW := BW')
    clear T' BW'
    (obtain ⟨⟨zs1, x1, y1, f1, e1⟩, ⟨zs2, x2, y2, f2, e2⟩, ⟨zs3, x3, y3, f3, e3⟩⟩ := T.out)
    clear b1
    go_wp2_with fail
    skip
    refine (V2.out _).mono ?_
    rintro e w2 ⟨rfl, b2⟩
    (have T' := Lib.hid (T.out.below b2))
    (have BW' := Lib.hid (BW.out.trans (b2.mono BW.out.size)))
    clear T BW
    (have T := T')
    (have BW := BW')
    clear T' BW'
    (obtain ⟨⟨zs1, x1, y1, f1, e1⟩, ⟨zs2, x2, y2, f2, e2⟩, ⟨zs3, x3, y3, f3, e3⟩⟩ := T.out)
    clear b2
    go_wp2_with fail
    go_region_held3 (fun w' => w'.cell? ⟨w.heap.size, 0, none⟩ = some (.int .i64 a) ∧ w'.cell? ⟨w.heap.size, 1, none⟩ = some (.int .i64 b) ∧ w'.cell? ⟨w.heap.size + 1, 0, none⟩ = some (.int .i64 c) ∧ w'.cell? ⟨w.heap.size + 1, 1, none⟩ = some (.int .i64 d)) (first | (go_keep; done) | ((try dsimp only); refine ⟨?_, ?_, ?_, ?_⟩ <;> first | (simp [*]; done) | ((repeat (first | refine Lib.cell?_alloc_some _ ?_ | (rw [World.cell?_setCell_other _ _ _ _ (by intro e; injection e with e1 e2; omega)]))); simp [*]; done)))
      (first
        | (go_at_call_of 32 (Value.int IntKind.i64 a); refine (Da.out _).mono ?_; rintro e w3 ⟨A3, n3, c3, rfl, s3, b3⟩; (have T' := Lib.hid ((T.out.keep (Gr.drewn _)).below b3)); (have BW' := Lib.hid ((BW.out.trans ((Gr.drewn _).below.mono BW.out.size)).trans (b3.mono BW.out.size))); clear T BW; (have T := T'); (have BW := BW'); clear T' BW'; (obtain ⟨⟨zs1, x1, y1, f1, e1⟩, ⟨zs2, x2, y2, f2, e2⟩, ⟨zs3, x3, y3, f3, e3⟩⟩ := T.out); (have hn3 : n3 ≤ 400 := s3.le (Nat.le_refl _) La.out); (have S3 := Lib.hid s3); clear s3 b3)
        | (go_at_call_of 32 (Value.int IntKind.i64 d); refine (Dd.out _).mono ?_; rintro e w4 ⟨A4, n4, c4, rfl, s4, b4⟩; (have S3 := Lib.hid (S3.out.keep b4)); (have T' := Lib.hid (T.out.below b4)); (have BW' := Lib.hid (BW.out.trans (b4.mono BW.out.size))); clear T BW; (have T := T'); (have BW := BW'); clear T' BW'; (obtain ⟨⟨zs1, x1, y1, f1, e1⟩, ⟨zs2, x2, y2, f2, e2⟩, ⟨zs3, x3, y3, f3, e3⟩⟩ := T.out); (have hn4 : n4 ≤ 400 := s4.le (Nat.le_refl _) Ld.out); (have S4 := Lib.hid s4); clear s4 b4; (have HT4 := Lib.hid (times_sl S3.out S4.out hn3 hn4)))
        | (go_at_call_of 39 (Value.slice A3 n3 c3); refine (HT4.out).mono ?_; rintro e w5 ⟨A5, n5, c5, rfl, s5, b5⟩; (have T' := Lib.hid (T.out.below b5)); (have BW' := Lib.hid (BW.out.trans (b5.mono BW.out.size))); clear T BW; (have T := T'); (have BW := BW'); clear T' BW'; (obtain ⟨⟨zs1, x1, y1, f1, e1⟩, ⟨zs2, x2, y2, f2, e2⟩, ⟨zs3, x3, y3, f3, e3⟩⟩ := T.out); (have hn5 : n5 ≤ 400 := s5.le (Nat.le_refl _) (by rw [HP.out]; exact (Nat.le_trans HLP.out (by omega)))); (have S5 := Lib.hid s5); clear s5 b5))
    rw [HP.out] at S5
    go_wp2_with fail
    go_region_held3 (fun w' => w'.cell? ⟨w.heap.size, 0, none⟩ = some (.int .i64 a) ∧ w'.cell? ⟨w.heap.size, 1, none⟩ = some (.int .i64 b) ∧ w'.cell? ⟨w.heap.size + 1, 0, none⟩ = some (.int .i64 c) ∧ w'.cell? ⟨w.heap.size + 1, 1, none⟩ = some (.int .i64 d)) (first | (go_keep; done) | ((try dsimp only); refine ⟨?_, ?_, ?_, ?_⟩ <;> first | (simp [*]; done) | ((repeat (first | refine Lib.cell?_alloc_some _ ?_ | (rw [World.cell?_setCell_other _ _ _ _ (by intro e; injection e with e1 e2; omega)]))); simp [*]; done)))
      (first
        | (go_at_call_of 32 (Value.int IntKind.i64 c); refine (Dc.out _).mono ?_; rintro e w6 ⟨A6, n6, c6, rfl, s6, b6⟩; (have S5 := Lib.hid ((S5.out.keep (Gr.drewn _).below).keep b6)); (have T' := Lib.hid ((T.out.keep (Gr.drewn _)).below b6)); (have BW' := Lib.hid ((BW.out.trans ((Gr.drewn _).below.mono BW.out.size)).trans (b6.mono BW.out.size))); clear T BW; (have T := T'); (have BW := BW'); clear T' BW'; (obtain ⟨⟨zs1, x1, y1, f1, e1⟩, ⟨zs2, x2, y2, f2, e2⟩, ⟨zs3, x3, y3, f3, e3⟩⟩ := T.out); (have hn6 : n6 ≤ 400 := s6.le (Nat.le_refl _) Lc.out); (have S6 := Lib.hid s6); clear s6 b6)
        | (go_at_call_of 32 (Value.int IntKind.i64 b); refine (Db.out _).mono ?_; rintro e w7 ⟨A7, n7, c7, rfl, s7, b7⟩; (have S5 := Lib.hid (S5.out.keep b7)); (have S6 := Lib.hid (S6.out.keep b7)); (have T' := Lib.hid (T.out.below b7)); (have BW' := Lib.hid (BW.out.trans (b7.mono BW.out.size))); clear T BW; (have T := T'); (have BW := BW'); clear T' BW'; (obtain ⟨⟨zs1, x1, y1, f1, e1⟩, ⟨zs2, x2, y2, f2, e2⟩, ⟨zs3, x3, y3, f3, e3⟩⟩ := T.out); (have hn7 : n7 ≤ 400 := s7.le (Nat.le_refl _) Lb.out); (have S7 := Lib.hid s7); clear s7 b7; (have HT7 := Lib.hid (times_sl S6.out S7.out hn6 hn7)))
        | (go_at_call_of 39 (Value.slice A6 n6 c6); refine (HT7.out).mono ?_; rintro e w8 ⟨A8, n8, c8, rfl, s8, b8⟩; (have S5 := Lib.hid (S5.out.keep b8)); (have T' := Lib.hid (T.out.below b8)); (have BW' := Lib.hid (BW.out.trans (b8.mono BW.out.size))); clear T BW; (have T := T'); (have BW := BW'); clear T' BW'; (obtain ⟨⟨zs1, x1, y1, f1, e1⟩, ⟨zs2, x2, y2, f2, e2⟩, ⟨zs3, x3, y3, f3, e3⟩⟩ := T.out); (have hn8 : n8 ≤ 400 := s8.le (Nat.le_refl _) (by rw [HQ.out]; exact (Nat.le_trans HLQ.out (by omega)))); (have S8 := Lib.hid s8); clear s8 b8))
    rw [HQ.out] at S8
    go_wp2_with fail
    go_region_held3 (fun w' => w'.cell? ⟨w.heap.size, 0, none⟩ = some (.int .i64 a) ∧ w'.cell? ⟨w.heap.size, 1, none⟩ = some (.int .i64 b) ∧ w'.cell? ⟨w.heap.size + 1, 0, none⟩ = some (.int .i64 c) ∧ w'.cell? ⟨w.heap.size + 1, 1, none⟩ = some (.int .i64 d)) (first | (go_keep; done) | ((try dsimp only); refine ⟨?_, ?_, ?_, ?_⟩ <;> first | (simp [*]; done) | ((repeat (first | refine Lib.cell?_alloc_some _ ?_ | (rw [World.cell?_setCell_other _ _ _ _ (by intro e; injection e with e1 e2; omega)]))); simp [*]; done)))
      (first
        | (go_at_call_of 32 (Value.int IntKind.i64 b); refine (Db.out _).mono ?_; rintro e w9 ⟨A9, n9, c9, rfl, s9, b9⟩; (have S5 := Lib.hid ((S5.out.keep (Gr.drewn _).below).keep b9)); (have S8 := Lib.hid ((S8.out.keep (Gr.drewn _).below).keep b9)); (have T' := Lib.hid ((T.out.keep (Gr.drewn _)).below b9)); (have BW' := Lib.hid ((BW.out.trans ((Gr.drewn _).below.mono BW.out.size)).trans (b9.mono BW.out.size))); clear T BW; (have T := T'); (have BW := BW'); clear T' BW'; (obtain ⟨⟨zs1, x1, y1, f1, e1⟩, ⟨zs2, x2, y2, f2, e2⟩, ⟨zs3, x3, y3, f3, e3⟩⟩ := T.out); (have hn9 : n9 ≤ 400 := s9.le (Nat.le_refl _) Lb.out); (have S9 := Lib.hid s9); clear s9 b9)
        | (go_at_call_of 32 (Value.int IntKind.i64 d); refine (Dd.out _).mono ?_; rintro e w10 ⟨A10, n10, c10, rfl, s10, b10⟩; (have S5 := Lib.hid (S5.out.keep b10)); (have S8 := Lib.hid (S8.out.keep b10)); (have S9 := Lib.hid (S9.out.keep b10)); (have T' := Lib.hid (T.out.below b10)); (have BW' := Lib.hid (BW.out.trans (b10.mono BW.out.size))); clear T BW; (have T := T'); (have BW := BW'); clear T' BW'; (obtain ⟨⟨zs1, x1, y1, f1, e1⟩, ⟨zs2, x2, y2, f2, e2⟩, ⟨zs3, x3, y3, f3, e3⟩⟩ := T.out); (have hn10 : n10 ≤ 400 := s10.le (Nat.le_refl _) Ld.out); (have S10 := Lib.hid s10); clear s10 b10; (have HT10 := Lib.hid (times_sl S9.out S10.out hn9 hn10)))
        | (go_at_call_of 39 (Value.slice A9 n9 c9); refine (HT10.out).mono ?_; rintro e w11 ⟨A11, n11, c11, rfl, s11, b11⟩; (have S5 := Lib.hid (S5.out.keep b11)); (have S8 := Lib.hid (S8.out.keep b11)); (have T' := Lib.hid (T.out.below b11)); (have BW' := Lib.hid (BW.out.trans (b11.mono BW.out.size))); clear T BW; (have T := T'); (have BW := BW'); clear T' BW'; (obtain ⟨⟨zs1, x1, y1, f1, e1⟩, ⟨zs2, x2, y2, f2, e2⟩, ⟨zs3, x3, y3, f3, e3⟩⟩ := T.out); (have hn11 : n11 ≤ 400 := s11.le (Nat.le_refl _) (by rw [HDD.out]; exact HLD.out)); (have S11 := Lib.hid s11); clear s11 b11))
    rw [HDD.out] at S11
    have HL1 := Lib.hid (less_sl S5.out S8.out (by omega))
    rw [HLT.out] at HL1
    go_wp2_with fail
    refine HL1.out.mono ?_
    rintro e w12 ⟨rfl, gg12⟩
    have b12 := gg12.below
    (have S5 := Lib.hid (S5.out.keep b12))
    (have S8 := Lib.hid (S8.out.keep b12))
    (have S11 := Lib.hid (S11.out.keep b12))
    (have T' := Lib.hid (T.out.below b12))
    (have BW' := Lib.hid (BW.out.trans (b12.mono BW.out.size)))
    clear T BW
    (have T := T')
    (have BW := BW')
    clear T' BW'
    (obtain ⟨⟨zs1, x1, y1, f1, e1⟩, ⟨zs2, x2, y2, f2, e2⟩, ⟨zs3, x3, y3, f3, e3⟩⟩ := T.out)
    clear b12 gg12
    have HMN := Lib.hid (minus_sl (S8.out.keep (Gr.drewn _).below) (S5.out.keep (Gr.drewn _).below) (by omega) hle)
    go_wp2_with fail
    go_region_held3 (fun w' => w'.cell? ⟨w.heap.size, 0, none⟩ = some (.int .i64 a) ∧ w'.cell? ⟨w.heap.size, 1, none⟩ = some (.int .i64 b) ∧ w'.cell? ⟨w.heap.size + 1, 0, none⟩ = some (.int .i64 c) ∧ w'.cell? ⟨w.heap.size + 1, 1, none⟩ = some (.int .i64 d)) (first | (go_keep; done) | ((try dsimp only); refine ⟨?_, ?_, ?_, ?_⟩ <;> first | (simp [*]; done) | ((repeat (first | refine Lib.cell?_alloc_some _ ?_ | (rw [World.cell?_setCell_other _ _ _ _ (by intro e; injection e with e1 e2; omega)]))); simp [*]; done)))
      (first
        | (go_at_call 42; refine (HMN.out).mono ?_; rintro e w13 ⟨A13, n13, c13, rfl, s13, b13⟩; (have S5 := Lib.hid ((S5.out.keep (Gr.drewn _).below).keep b13)); (have S8 := Lib.hid ((S8.out.keep (Gr.drewn _).below).keep b13)); (have S11 := Lib.hid ((S11.out.keep (Gr.drewn _).below).keep b13)); (have T' := Lib.hid ((T.out.keep (Gr.drewn _)).below b13)); (have BW' := Lib.hid ((BW.out.trans ((Gr.drewn _).below.mono BW.out.size)).trans (b13.mono BW.out.size))); clear T BW; (have T := T'); (have BW := BW'); clear T' BW'; (obtain ⟨⟨zs1, x1, y1, f1, e1⟩, ⟨zs2, x2, y2, f2, e2⟩, ⟨zs3, x3, y3, f3, e3⟩⟩ := T.out); (have hn13 : n13 ≤ 400 := s13.le (Nat.le_refl _) HLS.out); (have S13 := Lib.hid s13); clear s13 b13; (have HL := Lib.hid (LW.out _ _ _ _ _ _ _ S13.out S11.out hn13 hn11)))
        | (go_at_call 31; refine (HL.out).mono ?_; rintro e w14 ⟨rfl, b14⟩; (have S5 := Lib.hid (S5.out.keep b14)); (have S8 := Lib.hid (S8.out.keep b14)); (have S11 := Lib.hid (S11.out.keep b14)); (have S13 := Lib.hid (S13.out.keep b14)); (have T' := Lib.hid (T.out.below b14)); (have BW' := Lib.hid (BW.out.trans (b14.mono BW.out.size))); clear T BW; (have T := T'); (have BW := BW'); clear T' BW'; (obtain ⟨⟨zs1, x1, y1, f1, e1⟩, ⟨zs2, x2, y2, f2, e2⟩, ⟨zs3, x3, y3, f3, e3⟩⟩ := T.out); clear b14))
    go_wp2_with fail
    refine bodyPost_ret (v := .tuple #[.agg #[.int .i64 RN, .int .i64 RD], .int .i64 RE]) (by simp [results, Tryd.results13, go_sem, *]) rfl ⟨rfl, ?_⟩
    exact (BW.out.setCell (by show _ ≤ w.heap.size + 1 + 1; omega) _).setCell (by show _ ≤ w.heap.size + 1 + 1; omega) _
set_option maxRecDepth 100000 in
set_option maxHeartbeats 8000000 in
theorem radd_more (a b c d RN RD RE : Int) (sa sc : Bool) (w : World) (hv : vld a b = true) (hv' : vld c d = true) (d1 : decide (a < 0) = sa) (d2 : decide (c < 0) = sc) (hne : sa ≠ sc) (hlt : ¬ a.natAbs * d.natAbs < c.natAbs * b.natAbs) (hN : rN (rat a b + rat c d) = RN) (hD : rD (rat a b + rat c d) = RD) (hE : rE (rat a b + rat c d) = RE) :
    Calls Tryd.prog 13 #[.agg #[.int .i64 a, .int .i64 b], .agg #[.int .i64 c, .int .i64 d]] w fun e w' => e = .returned (.tuple #[.agg #[.int .i64 RN, .int .i64 RD], .int .i64 RE]) ∧ Below w.heap.size w w' := by
  obtain ⟨hb, hb', ha, _⟩ := vld_iff.1 hv
  obtain ⟨hd, hd', hc, _⟩ := vld_iff.1 hv'
  have V1 := Lib.hid (fun W => rvalid_any a b W (by omega) (by omega) (by omega) (by omega))
  have V2 := Lib.hid (fun W => rvalid_any c d W (by omega) (by omega) (by omega) (by omega))
  rw [hv] at V1
  rw [hv'] at V2
  have Da := Lib.hid (fun W => digits_sl a W (by omega) (by omega))
  have Db := Lib.hid (fun W => digits_sl b W (by omega) (by omega))
  have Dc := Lib.hid (fun W => digits_sl c W (by omega) (by omega))
  have Dd := Lib.hid (fun W => digits_sl d W (by omega) (by omega))
  have La := Lib.hid (show (bin a.natAbs).length ≤ 400 by have := bin_len a.natAbs 64 (by omega); omega)
  have Lb := Lib.hid (show (bin b.natAbs).length ≤ 400 by have := bin_len b.natAbs 64 (by omega); omega)
  have Lc := Lib.hid (show (bin c.natAbs).length ≤ 400 by have := bin_len c.natAbs 64 (by omega); omega)
  have Ld := Lib.hid (show (bin d.natAbs).length ≤ 400 by have := bin_len d.natAbs 64 (by omega); omega)
  have LP : ∀ x y : Nat, x < 18446744073709551616 → y < 18446744073709551616 → (bin (x * y)).length ≤ 128 := fun x y h1 h2 => bin_len _ _ (by have := Nat.mul_lt_mul'' h1 h2; omega)
  have HLP := Lib.hid (show (bin (a.natAbs * d.natAbs)).length ≤ 199 by have := LP a.natAbs d.natAbs (by omega) (by omega); omega)
  have HLQ := Lib.hid (show (bin (c.natAbs * b.natAbs)).length ≤ 199 by have := LP c.natAbs b.natAbs (by omega) (by omega); omega)
  have HLD := Lib.hid (show (bin (b.natAbs * d.natAbs)).length ≤ 400 by have := LP b.natAbs d.natAbs (by omega) (by omega); omega)
  have HBD := Lib.hid (show 0 < b.natAbs * d.natAbs from Nat.mul_pos (by omega) (by omega))
  have HN := Lib.hid hN
  have HD := Lib.hid hD
  have HE := Lib.hid hE
  have HR := Lib.hid ((add_ref_diff hb hd sa sc d1 d2 hne).2 hlt)
  clear hN hD hE LP hv hv'
  generalize hP : a.natAbs * d.natAbs = P at *
  generalize hQ : c.natAbs * b.natAbs = Q at *
  generalize hDD : b.natAbs * d.natAbs = DD at *
  have HP := Lib.hid hP
  have HQ := Lib.hid hQ
  have HDD := Lib.hid hDD
  clear hP hQ hDD
  have HLS := Lib.hid (show (bin (P - Q)).length ≤ 400 by have := bin_len_le (Nat.sub_le P Q); have := HLP.out; omega)
  have HLT := Lib.hid (show decide (P < Q) = false from decide_eq_false hlt)
  have hle : Q ≤ P := by omega
  clear hlt
  cases sa <;> cases sc
  all_goals first | exact absurd rfl hne | skip
  all_goals
    clear hne
    have LW := Lib.hid (fun (W : World) (A0 B0 : Option Addr) (l0 m0 i0 j0 : Nat) (s1 : Sl W A0 l0 i0 (P - Q)) (s2 : Sl W B0 m0 j0 (DD)) (q1 : l0 ≤ 400) (q2 : m0 ≤ 400) => lowest_r s1 s2 HBD.out q1 q2 HR.out HN.out HD.out HE.out)
    go_enter Tryd.func13, Tryd.ntmps13
    go_wp2_with fail
    have T := Lib.hid (Three.made w (.int .i64 a) (.int .i64 b) (.int .i64 c) (.int .i64 d))
    have BW := Lib.hid (((Gr.one w (.cells #[.int .i64 a, .int .i64 b] 23)).alloc (.cells #[.int .i64 c, .int .i64 d] 23)).alloc (.cells #[.int .i64 0, .int .i64 0] 23)).below
    generalize ((w.alloc (.cells #[.int .i64 a, .int .i64 b] 23)).alloc (.cells #[.int .i64 c, .int .i64 d] 23)).alloc (.cells #[.int .i64 0, .int .i64 0] 23) = W at *
    skip
    refine (V1.out _).mono ?_
    rintro e w1 ⟨rfl, b1⟩
    (have T' := Lib.hid (T.out.below b1))
    (have BW' := Lib.hid (BW.out.trans (b1.mono BW.out.size)))
    clear T BW
    (have T := T')
    (have BW := BW')
    clear T' BW'
    (obtain ⟨⟨zs1, x1, y1, f1, e1⟩, ⟨zs2, x2, y2, f2, e2⟩, ⟨zs3, x3, y3, f3, e3⟩⟩ := T.out)
    clear b1
    go_wp2_with fail
    skip
    refine (V2.out _).mono ?_
    rintro e w2 ⟨rfl, b2⟩
    (have T' := Lib.hid (T.out.below b2))
    (have BW' := Lib.hid (BW.out.trans (b2.mono BW.out.size)))
    clear T BW
    (have T := T')
    (have BW := BW')
    clear T' BW'
    (obtain ⟨⟨zs1, x1, y1, f1, e1⟩, ⟨zs2, x2, y2, f2, e2⟩, ⟨zs3, x3, y3, f3, e3⟩⟩ := T.out)
    clear b2
    go_wp2_with fail
    go_region_held3 (fun w' => w'.cell? ⟨w.heap.size, 0, none⟩ = some (.int .i64 a) ∧ w'.cell? ⟨w.heap.size, 1, none⟩ = some (.int .i64 b) ∧ w'.cell? ⟨w.heap.size + 1, 0, none⟩ = some (.int .i64 c) ∧ w'.cell? ⟨w.heap.size + 1, 1, none⟩ = some (.int .i64 d)) (first | (go_keep; done) | ((try dsimp only); refine ⟨?_, ?_, ?_, ?_⟩ <;> first | (simp [*]; done) | ((repeat (first | refine Lib.cell?_alloc_some _ ?_ | (rw [World.cell?_setCell_other _ _ _ _ (by intro e; injection e with e1 e2; omega)]))); simp [*]; done)))
      (first
        | (go_at_call_of 32 (Value.int IntKind.i64 a); refine (Da.out _).mono ?_; rintro e w3 ⟨A3, n3, c3, rfl, s3, b3⟩; (have T' := Lib.hid ((T.out.keep (Gr.drewn _)).below b3)); (have BW' := Lib.hid ((BW.out.trans ((Gr.drewn _).below.mono BW.out.size)).trans (b3.mono BW.out.size))); clear T BW; (have T := T'); (have BW := BW'); clear T' BW'; (obtain ⟨⟨zs1, x1, y1, f1, e1⟩, ⟨zs2, x2, y2, f2, e2⟩, ⟨zs3, x3, y3, f3, e3⟩⟩ := T.out); (have hn3 : n3 ≤ 400 := s3.le (Nat.le_refl _) La.out); (have S3 := Lib.hid s3); clear s3 b3)
        | (go_at_call_of 32 (Value.int IntKind.i64 d); refine (Dd.out _).mono ?_; rintro e w4 ⟨A4, n4, c4, rfl, s4, b4⟩; (have S3 := Lib.hid (S3.out.keep b4)); (have T' := Lib.hid (T.out.below b4)); (have BW' := Lib.hid (BW.out.trans (b4.mono BW.out.size))); clear T BW; (have T := T'); (have BW := BW'); clear T' BW'; (obtain ⟨⟨zs1, x1, y1, f1, e1⟩, ⟨zs2, x2, y2, f2, e2⟩, ⟨zs3, x3, y3, f3, e3⟩⟩ := T.out); (have hn4 : n4 ≤ 400 := s4.le (Nat.le_refl _) Ld.out); (have S4 := Lib.hid s4); clear s4 b4; (have HT4 := Lib.hid (times_sl S3.out S4.out hn3 hn4)))
        | (go_at_call_of 39 (Value.slice A3 n3 c3); refine (HT4.out).mono ?_; rintro e w5 ⟨A5, n5, c5, rfl, s5, b5⟩; (have T' := Lib.hid (T.out.below b5)); (have BW' := Lib.hid (BW.out.trans (b5.mono BW.out.size))); clear T BW; (have T := T'); (have BW := BW'); clear T' BW'; (obtain ⟨⟨zs1, x1, y1, f1, e1⟩, ⟨zs2, x2, y2, f2, e2⟩, ⟨zs3, x3, y3, f3, e3⟩⟩ := T.out); (have hn5 : n5 ≤ 400 := s5.le (Nat.le_refl _) (by rw [HP.out]; exact (Nat.le_trans HLP.out (by omega)))); (have S5 := Lib.hid s5); clear s5 b5))
    rw [HP.out] at S5
    go_wp2_with fail
    go_region_held3 (fun w' => w'.cell? ⟨w.heap.size, 0, none⟩ = some (.int .i64 a) ∧ w'.cell? ⟨w.heap.size, 1, none⟩ = some (.int .i64 b) ∧ w'.cell? ⟨w.heap.size + 1, 0, none⟩ = some (.int .i64 c) ∧ w'.cell? ⟨w.heap.size + 1, 1, none⟩ = some (.int .i64 d)) (first | (go_keep; done) | ((try dsimp only); refine ⟨?_, ?_, ?_, ?_⟩ <;> first | (simp [*]; done) | ((repeat (first | refine Lib.cell?_alloc_some _ ?_ | (rw [World.cell?_setCell_other _ _ _ _ (by intro e; injection e with e1 e2; omega)]))); simp [*]; done)))
      (first
        | (go_at_call_of 32 (Value.int IntKind.i64 c); refine (Dc.out _).mono ?_; rintro e w6 ⟨A6, n6, c6, rfl, s6, b6⟩; (have S5 := Lib.hid ((S5.out.keep (Gr.drewn _).below).keep b6)); (have T' := Lib.hid ((T.out.keep (Gr.drewn _)).below b6)); (have BW' := Lib.hid ((BW.out.trans ((Gr.drewn _).below.mono BW.out.size)).trans (b6.mono BW.out.size))); clear T BW; (have T := T'); (have BW := BW'); clear T' BW'; (obtain ⟨⟨zs1, x1, y1, f1, e1⟩, ⟨zs2, x2, y2, f2, e2⟩, ⟨zs3, x3, y3, f3, e3⟩⟩ := T.out); (have hn6 : n6 ≤ 400 := s6.le (Nat.le_refl _) Lc.out); (have S6 := Lib.hid s6); clear s6 b6)
        | (go_at_call_of 32 (Value.int IntKind.i64 b); refine (Db.out _).mono ?_; rintro e w7 ⟨A7, n7, c7, rfl, s7, b7⟩; (have S5 := Lib.hid (S5.out.keep b7)); (have S6 := Lib.hid (S6.out.keep b7)); (have T' := Lib.hid (T.out.below b7)); (have BW' := Lib.hid (BW.out.trans (b7.mono BW.out.size))); clear T BW; (have T := T'); (have BW := BW'); clear T' BW'; (obtain ⟨⟨zs1, x1, y1, f1, e1⟩, ⟨zs2, x2, y2, f2, e2⟩, ⟨zs3, x3, y3, f3, e3⟩⟩ := T.out); (have hn7 : n7 ≤ 400 := s7.le (Nat.le_refl _) Lb.out); (have S7 := Lib.hid s7); clear s7 b7; (have HT7 := Lib.hid (times_sl S6.out S7.out hn6 hn7)))
        | (go_at_call_of 39 (Value.slice A6 n6 c6); refine (HT7.out).mono ?_; rintro e w8 ⟨A8, n8, c8, rfl, s8, b8⟩; (have S5 := Lib.hid (S5.out.keep b8)); (have T' := Lib.hid (T.out.below b8)); (have BW' := Lib.hid (BW.out.trans (b8.mono BW.out.size))); clear T BW; (have T := T'); (have BW := BW'); clear T' BW'; (obtain ⟨⟨zs1, x1, y1, f1, e1⟩, ⟨zs2, x2, y2, f2, e2⟩, ⟨zs3, x3, y3, f3, e3⟩⟩ := T.out); (have hn8 : n8 ≤ 400 := s8.le (Nat.le_refl _) (by rw [HQ.out]; exact (Nat.le_trans HLQ.out (by omega)))); (have S8 := Lib.hid s8); clear s8 b8))
    rw [HQ.out] at S8
    go_wp2_with fail
    go_region_held3 (fun w' => w'.cell? ⟨w.heap.size, 0, none⟩ = some (.int .i64 a) ∧ w'.cell? ⟨w.heap.size, 1, none⟩ = some (.int .i64 b) ∧ w'.cell? ⟨w.heap.size + 1, 0, none⟩ = some (.int .i64 c) ∧ w'.cell? ⟨w.heap.size + 1, 1, none⟩ = some (.int .i64 d)) (first | (go_keep; done) | ((try dsimp only); refine ⟨?_, ?_, ?_, ?_⟩ <;> first | (simp [*]; done) | ((repeat (first | refine Lib.cell?_alloc_some _ ?_ | (rw [World.cell?_setCell_other _ _ _ _ (by intro e; injection e with e1 e2; omega)]))); simp [*]; done)))
      (first
        | (go_at_call_of 32 (Value.int IntKind.i64 b); refine (Db.out _).mono ?_; rintro e w9 ⟨A9, n9, c9, rfl, s9, b9⟩; (have S5 := Lib.hid ((S5.out.keep (Gr.drewn _).below).keep b9)); (have S8 := Lib.hid ((S8.out.keep (Gr.drewn _).below).keep b9)); (have T' := Lib.hid ((T.out.keep (Gr.drewn _)).below b9)); (have BW' := Lib.hid ((BW.out.trans ((Gr.drewn _).below.mono BW.out.size)).trans (b9.mono BW.out.size))); clear T BW; (have T := T'); (have BW := BW'); clear T' BW'; (obtain ⟨⟨zs1, x1, y1, f1, e1⟩, ⟨zs2, x2, y2, f2, e2⟩, ⟨zs3, x3, y3, f3, e3⟩⟩ := T.out); (have hn9 : n9 ≤ 400 := s9.le (Nat.le_refl _) Lb.out); (have S9 := Lib.hid s9); clear s9 b9)
        | (go_at_call_of 32 (Value.int IntKind.i64 d); refine (Dd.out _).mono ?_; rintro e w10 ⟨A10, n10, c10, rfl, s10, b10⟩; (have S5 := Lib.hid (S5.out.keep b10)); (have S8 := Lib.hid (S8.out.keep b10)); (have S9 := Lib.hid (S9.out.keep b10)); (have T' := Lib.hid (T.out.below b10)); (have BW' := Lib.hid (BW.out.trans (b10.mono BW.out.size))); clear T BW; (have T := T'); (have BW := BW'); clear T' BW'; (obtain ⟨⟨zs1, x1, y1, f1, e1⟩, ⟨zs2, x2, y2, f2, e2⟩, ⟨zs3, x3, y3, f3, e3⟩⟩ := T.out); (have hn10 : n10 ≤ 400 := s10.le (Nat.le_refl _) Ld.out); (have S10 := Lib.hid s10); clear s10 b10; (have HT10 := Lib.hid (times_sl S9.out S10.out hn9 hn10)))
        | (go_at_call_of 39 (Value.slice A9 n9 c9); refine (HT10.out).mono ?_; rintro e w11 ⟨A11, n11, c11, rfl, s11, b11⟩; (have S5 := Lib.hid (S5.out.keep b11)); (have S8 := Lib.hid (S8.out.keep b11)); (have T' := Lib.hid (T.out.below b11)); (have BW' := Lib.hid (BW.out.trans (b11.mono BW.out.size))); clear T BW; (have T := T'); (have BW := BW'); clear T' BW'; (obtain ⟨⟨zs1, x1, y1, f1, e1⟩, ⟨zs2, x2, y2, f2, e2⟩, ⟨zs3, x3, y3, f3, e3⟩⟩ := T.out); (have hn11 : n11 ≤ 400 := s11.le (Nat.le_refl _) (by rw [HDD.out]; exact HLD.out)); (have S11 := Lib.hid s11); clear s11 b11))
    rw [HDD.out] at S11
    have HL1 := Lib.hid (less_sl S5.out S8.out (by omega))
    rw [HLT.out] at HL1
    go_wp2_with fail
    refine HL1.out.mono ?_
    rintro e w12 ⟨rfl, gg12⟩
    have b12 := gg12.below
    (have S5 := Lib.hid (S5.out.keep b12))
    (have S8 := Lib.hid (S8.out.keep b12))
    (have S11 := Lib.hid (S11.out.keep b12))
    (have T' := Lib.hid (T.out.below b12))
    (have BW' := Lib.hid (BW.out.trans (b12.mono BW.out.size)))
    clear T BW
    (have T := T')
    (have BW := BW')
    clear T' BW'
    (obtain ⟨⟨zs1, x1, y1, f1, e1⟩, ⟨zs2, x2, y2, f2, e2⟩, ⟨zs3, x3, y3, f3, e3⟩⟩ := T.out)
    clear b12 gg12
    have HMN := Lib.hid (minus_sl (S5.out.keep (Gr.drewn _).below) (S8.out.keep (Gr.drewn _).below) (by omega) hle)
    go_wp2_with fail
    go_region_held3 (fun w' => w'.cell? ⟨w.heap.size, 0, none⟩ = some (.int .i64 a) ∧ w'.cell? ⟨w.heap.size, 1, none⟩ = some (.int .i64 b) ∧ w'.cell? ⟨w.heap.size + 1, 0, none⟩ = some (.int .i64 c) ∧ w'.cell? ⟨w.heap.size + 1, 1, none⟩ = some (.int .i64 d)) (first | (go_keep; done) | ((try dsimp only); refine ⟨?_, ?_, ?_, ?_⟩ <;> first | (simp [*]; done) | ((repeat (first | refine Lib.cell?_alloc_some _ ?_ | (rw [World.cell?_setCell_other _ _ _ _ (by intro e; injection e with e1 e2; omega)]))); simp [*]; done)))
      (first
        | (go_at_call 42; refine (HMN.out).mono ?_; rintro e w13 ⟨A13, n13, c13, rfl, s13, b13⟩; (have S5 := Lib.hid ((S5.out.keep (Gr.drewn _).below).keep b13)); (have S8 := Lib.hid ((S8.out.keep (Gr.drewn _).below).keep b13)); (have S11 := Lib.hid ((S11.out.keep (Gr.drewn _).below).keep b13)); (have T' := Lib.hid ((T.out.keep (Gr.drewn _)).below b13)); (have BW' := Lib.hid ((BW.out.trans ((Gr.drewn _).below.mono BW.out.size)).trans (b13.mono BW.out.size))); clear T BW; (have T := T'); (have BW := BW'); clear T' BW'; (obtain ⟨⟨zs1, x1, y1, f1, e1⟩, ⟨zs2, x2, y2, f2, e2⟩, ⟨zs3, x3, y3, f3, e3⟩⟩ := T.out); (have hn13 : n13 ≤ 400 := s13.le (Nat.le_refl _) HLS.out); (have S13 := Lib.hid s13); clear s13 b13; (have HL := Lib.hid (LW.out _ _ _ _ _ _ _ S13.out S11.out hn13 hn11)))
        | (go_at_call 31; refine (HL.out).mono ?_; rintro e w14 ⟨rfl, b14⟩; (have S5 := Lib.hid (S5.out.keep b14)); (have S8 := Lib.hid (S8.out.keep b14)); (have S11 := Lib.hid (S11.out.keep b14)); (have S13 := Lib.hid (S13.out.keep b14)); (have T' := Lib.hid (T.out.below b14)); (have BW' := Lib.hid (BW.out.trans (b14.mono BW.out.size))); clear T BW; (have T := T'); (have BW := BW'); clear T' BW'; (obtain ⟨⟨zs1, x1, y1, f1, e1⟩, ⟨zs2, x2, y2, f2, e2⟩, ⟨zs3, x3, y3, f3, e3⟩⟩ := T.out); clear b14))
    go_wp2_with fail
    refine bodyPost_ret (v := .tuple #[.agg #[.int .i64 RN, .int .i64 RD], .int .i64 RE]) (by simp [results, Tryd.results13, go_sem, *]) rfl ⟨rfl, ?_⟩
    exact (BW.out.setCell (by show _ ≤ w.heap.size + 1 + 1; omega) _).setCell (by show _ ≤ w.heap.size + 1 + 1; omega) _
theorem radd_at {a b c d RN RD RE : Int} (w : World) (hv : vld a b = true) (hv' : vld c d = true) (hN : rN (rat a b + rat c d) = RN) (hD : rD (rat a b + rat c d) = RD) (hE : rE (rat a b + rat c d) = RE) :
    Calls Tryd.prog 13 #[.agg #[.int .i64 a, .int .i64 b], .agg #[.int .i64 c, .int .i64 d]] w fun e w' => e = .returned (.tuple #[.agg #[.int .i64 RN, .int .i64 RD], .int .i64 RE]) ∧ Below w.heap.size w w' := by
  by_cases h : decide (a < 0) = decide (c < 0)
  · exact radd_same a b c d RN RD RE _ w hv hv' h rfl hN hD hE
  · by_cases h2 : a.natAbs * d.natAbs < c.natAbs * b.natAbs
    · exact radd_less a b c d RN RD RE _ _ w hv hv' rfl rfl h h2 hN hD hE
    · exact radd_more a b c d RN RD RE _ _ w hv hv' rfl rfl h h2 hN hD hE
end Go.Proofs.YtdmddfhjfkdlnaaDoor
