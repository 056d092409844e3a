/- The contracts of the reference's Compare. Under no condition but the types' own ranges. -/
import Derived.Test.YtdmddfhjfkdlnaaDoorRi
import Derived.Test.YtdmddfhjfkdlnaaDoorPv
import Derived.Test.YtdmddfhjfkdlnaaDoorRj
namespace Go.Proofs.YtdmddfhjfkdlnaaDoor
open Go.RowKit
set_option maxRecDepth 100000 in
set_option maxHeartbeats 8000000 in
theorem rcmp_no (a b c d : Int) (w : World) (h0 : -9223372036854775808 ≤ a) (h1 : a ≤ 9223372036854775807) (k0 : -9223372036854775808 ≤ b) (k1 : b ≤ 9223372036854775807) (h2 : -9223372036854775808 ≤ c) (h3 : c ≤ 9223372036854775807) (k2 : -9223372036854775808 ≤ d) (k3 : d ≤ 9223372036854775807) (h : (vld a b && vld c d) = false) :
    Calls Tryd.prog 19 #[.agg #[.int .i64 a, .int .i64 b], .agg #[.int .i64 c, .int .i64 d]] w fun e w' => e = .returned (.tuple #[.int .i64 0, .int .i64 1]) ∧ Below w.heap.size w w' := by
  have HV1 := Lib.hid (fun W => rvalid_any a b W h0 h1 k0 k1)
  have HV2 := Lib.hid (fun W => rvalid_any c d W h2 h3 k2 k3)
  generalize vld a b = v1 at *
  generalize vld c d = v2 at *
  cases v1 with
  | false =>
    clear h
    go_enter Tryd.func19, Tryd.ntmps19
    go_wp2_with fail
    have T := Lib.hid (Duo.made w (.int .i64 a) (.int .i64 b) (.int .i64 c) (.int .i64 d))
    have BW := Lib.hid ((Gr.one w (.cells #[.int .i64 a, .int .i64 b] 23)).alloc (.cells #[.int .i64 c, .int .i64 d] 23)).below
    generalize (w.alloc (.cells #[.int .i64 a, .int .i64 b] 23)).alloc (.cells #[.int .i64 c, .int .i64 d] 23) = W at *
    skip
    refine (HV1.out _).mono ?_
    rintro e w1 ⟨rfl, b1⟩
    (have T' := Lib.hid (T.out.below b1))
    (have BW' := Lib.hid (BW.out.trans (b1.mono BW.out.size)))
    clear T BW
    (have T := T')
    (have BW := BW')
    clear T' BW'
    (obtain ⟨⟨zs1, x1, y1, f1, e1⟩, ⟨zs2, x2, y2, f2, e2⟩⟩ := T.out)
    clear b1
    go_wp2_with fail
    go_ret2
    exact ⟨rfl, BW.out⟩
  | true =>
    obtain rfl : v2 = false := by simpa using h
    clear h
    go_enter Tryd.func19, Tryd.ntmps19
    go_wp2_with fail
    have T := Lib.hid (Duo.made w (.int .i64 a) (.int .i64 b) (.int .i64 c) (.int .i64 d))
    have BW := Lib.hid ((Gr.one w (.cells #[.int .i64 a, .int .i64 b] 23)).alloc (.cells #[.int .i64 c, .int .i64 d] 23)).below
    generalize (w.alloc (.cells #[.int .i64 a, .int .i64 b] 23)).alloc (.cells #[.int .i64 c, .int .i64 d] 23) = W at *
    skip
    refine (HV1.out _).mono ?_
    rintro e w1 ⟨rfl, b1⟩
    (have T' := Lib.hid (T.out.below b1))
    (have BW' := Lib.hid (BW.out.trans (b1.mono BW.out.size)))
    clear T BW
    (have T := T')
    (have BW := BW')
    clear T' BW'
    (obtain ⟨⟨zs1, x1, y1, f1, e1⟩, ⟨zs2, x2, y2, f2, e2⟩⟩ := T.out)
    clear b1
    go_wp2_with fail
    skip
    refine (HV2.out _).mono ?_
    rintro e w2 ⟨rfl, b2⟩
    (have T' := Lib.hid (T.out.below b2))
    (have BW' := Lib.hid (BW.out.trans (b2.mono BW.out.size)))
    clear T BW
    (have T := T')
    (have BW := BW')
    clear T' BW'
    (obtain ⟨⟨zs1, x1, y1, f1, e1⟩, ⟨zs2, x2, y2, f2, e2⟩⟩ := T.out)
    clear b2
    go_wp2_with fail
    go_ret2
    exact ⟨rfl, BW.out⟩
set_option maxRecDepth 100000 in
set_option maxHeartbeats 8000000 in
theorem rcmp_diff (a b c d C : Int) (sa sc : Bool) (w : World) (hv : vld a b = true) (hv' : vld c d = true) (d1 : decide (a < 0) = sa) (d2 : decide (c < 0) = sc) (hne : sa ≠ sc) (hC : cmp a b c d = C) :
    Calls Tryd.prog 19 #[.agg #[.int .i64 a, .int .i64 b], .agg #[.int .i64 c, .int .i64 d]] w fun e w' => e = .returned (.tuple #[.int .i64 C, .int .i64 0]) ∧ Below w.heap.size w w' := by
  obtain ⟨hb, hb', ha, _⟩ := vld_iff.1 hv
  obtain ⟨hd, hd', hc, _⟩ := vld_iff.1 hv'
  have V1 := Lib.hid (fun W => rvalid_any a b W (by omega) (by omega) (by omega) (by omega))
  have V2 := Lib.hid (fun W => rvalid_any c d W (by omega) (by omega) (by omega) (by omega))
  rw [hv] at V1
  rw [hv'] at V2
  have Da := Lib.hid (fun W => digits_sl a W (by omega) (by omega))
  have Db := Lib.hid (fun W => digits_sl b W (by omega) (by omega))
  have Dc := Lib.hid (fun W => digits_sl c W (by omega) (by omega))
  have Dd := Lib.hid (fun W => digits_sl d W (by omega) (by omega))
  have La := Lib.hid (show (bin a.natAbs).length ≤ 400 by have := bin_len a.natAbs 64 (by omega); omega)
  have Lb := Lib.hid (show (bin b.natAbs).length ≤ 400 by have := bin_len b.natAbs 64 (by omega); omega)
  have Lc := Lib.hid (show (bin c.natAbs).length ≤ 400 by have := bin_len c.natAbs 64 (by omega); omega)
  have Ld := Lib.hid (show (bin d.natAbs).length ≤ 400 by have := bin_len d.natAbs 64 (by omega); omega)
  have LP : ∀ x y : Nat, x < 18446744073709551616 → y < 18446744073709551616 → (bin (x * y)).length ≤ 128 := fun x y h1 h2 => bin_len _ _ (by have := Nat.mul_lt_mul'' h1 h2; omega)
  have HC := Lib.hid (show C = if sa = true then -1 else 1 by rw [← hC, cmp_diff hv hv' (by rw [d1, d2]; exact hne), ← d1]; simp)
  clear hv hv' hC LP
  cases sa <;> cases sc
  all_goals first | exact absurd rfl hne | skip
  all_goals
    clear hne
    go_enter Tryd.func19, Tryd.ntmps19
    go_wp2_with fail
    have T := Lib.hid (Duo.made w (.int .i64 a) (.int .i64 b) (.int .i64 c) (.int .i64 d))
    have BW := Lib.hid ((Gr.one w (.cells #[.int .i64 a, .int .i64 b] 23)).alloc (.cells #[.int .i64 c, .int .i64 d] 23)).below
    generalize (w.alloc (.cells #[.int .i64 a, .int .i64 b] 23)).alloc (.cells #[.int .i64 c, .int .i64 d] 23) = W at *
    skip
    refine (V1.out _).mono ?_
    rintro e w1 ⟨rfl, b1⟩
    (have T' := Lib.hid (T.out.below b1))
    (have BW' := Lib.hid (BW.out.trans (b1.mono BW.out.size)))
    clear T BW
    (have T := T')
    (have BW := BW')
    clear T' BW'
    (obtain ⟨⟨zs1, x1, y1, f1, e1⟩, ⟨zs2, x2, y2, f2, e2⟩⟩ := T.out)
    clear b1
    go_wp2_with fail
    skip
    refine (V2.out _).mono ?_
    rintro e w2 ⟨rfl, b2⟩
    (have T' := Lib.hid (T.out.below b2))
    (have BW' := Lib.hid (BW.out.trans (b2.mono BW.out.size)))
    clear T BW
    (have T := T')
    (have BW := BW')
    clear T' BW'
    (obtain ⟨⟨zs1, x1, y1, f1, e1⟩, ⟨zs2, x2, y2, f2, e2⟩⟩ := T.out)
    clear b2
    go_wp2_with fail
    go_ret2
    exact ⟨by rw [HC.out]; rfl, BW.out⟩
set_option maxRecDepth 100000 in
set_option maxHeartbeats 8000000 in
theorem rcmp_same (a b c d C : Int) (s : Bool) (w : World) (hv : vld a b = true) (hv' : vld c d = true) (d1 : decide (a < 0) = s) (d2 : decide (c < 0) = s) (hC : cmp a b c d = C) :
    Calls Tryd.prog 19 #[.agg #[.int .i64 a, .int .i64 b], .agg #[.int .i64 c, .int .i64 d]] w fun e w' => e = .returned (.tuple #[.int .i64 C, .int .i64 0]) ∧ Below w.heap.size w w' := by
  obtain ⟨hb, hb', ha, _⟩ := vld_iff.1 hv
  obtain ⟨hd, hd', hc, _⟩ := vld_iff.1 hv'
  have V1 := Lib.hid (fun W => rvalid_any a b W (by omega) (by omega) (by omega) (by omega))
  have V2 := Lib.hid (fun W => rvalid_any c d W (by omega) (by omega) (by omega) (by omega))
  rw [hv] at V1
  rw [hv'] at V2
  have Da := Lib.hid (fun W => digits_sl a W (by omega) (by omega))
  have Db := Lib.hid (fun W => digits_sl b W (by omega) (by omega))
  have Dc := Lib.hid (fun W => digits_sl c W (by omega) (by omega))
  have Dd := Lib.hid (fun W => digits_sl d W (by omega) (by omega))
  have La := Lib.hid (show (bin a.natAbs).length ≤ 400 by have := bin_len a.natAbs 64 (by omega); omega)
  have Lb := Lib.hid (show (bin b.natAbs).length ≤ 400 by have := bin_len b.natAbs 64 (by omega); omega)
  have Lc := Lib.hid (show (bin c.natAbs).length ≤ 400 by have := bin_len c.natAbs 64 (by omega); omega)
  have Ld := Lib.hid (show (bin d.natAbs).length ≤ 400 by have := bin_len d.natAbs 64 (by omega); omega)
  have LP : ∀ x y : Nat, x < 18446744073709551616 → y < 18446744073709551616 → (bin (x * y)).length ≤ 128 := fun x y h1 h2 => bin_len _ _ (by have := Nat.mul_lt_mul'' h1 h2; omega)
  have HLP := Lib.hid (show (bin (a.natAbs * d.natAbs)).length ≤ 400 by have := LP a.natAbs d.natAbs (by omega) (by omega); omega)
  have HLQ := Lib.hid (show (bin (c.natAbs * b.natAbs)).length ≤ 400 by have := LP c.natAbs b.natAbs (by omega) (by omega); omega)
  have HC := Lib.hid (cmp_ref hv hv' s d1 d2 _ _ rfl rfl)
  rw [hC] at HC
  clear hv hv' hC LP
  generalize hP : a.natAbs * d.natAbs = P at *
  generalize hQ : c.natAbs * b.natAbs = Q at *
  have HP := Lib.hid hP
  have HQ := Lib.hid hQ
  clear hP hQ
  cases s
  · have HC' : Hid (C = if P < Q then -1 else if Q < P then 1 else 0) := Lib.hid HC.out
    clear HC
    by_cases q1 : P < Q
    · have HF := Lib.hid (show (if P < Q then (-1 : Int) else if Q < P then 1 else 0) = -1 from if_pos q1)
      have HQ1 := Lib.hid (show decide (P < Q) = true from decide_eq_true q1)
      clear q1
      go_enter Tryd.func19, Tryd.ntmps19
      go_wp2_with fail
      have T := Lib.hid (Duo.made w (.int .i64 a) (.int .i64 b) (.int .i64 c) (.int .i64 d))
      have BW := Lib.hid ((Gr.one w (.cells #[.int .i64 a, .int .i64 b] 23)).alloc (.cells #[.int .i64 c, .int .i64 d] 23)).below
      generalize (w.alloc (.cells #[.int .i64 a, .int .i64 b] 23)).alloc (.cells #[.int .i64 c, .int .i64 d] 23) = W at *
      skip
      refine (V1.out _).mono ?_
      rintro e w1 ⟨rfl, b1⟩
      (have T' := Lib.hid (T.out.below b1))
      (have BW' := Lib.hid (BW.out.trans (b1.mono BW.out.size)))
      clear T BW
      (have T := T')
      (have BW := BW')
      clear T' BW'
      (obtain ⟨⟨zs1, x1, y1, f1, e1⟩, ⟨zs2, x2, y2, f2, e2⟩⟩ := T.out)
      clear b1
      go_wp2_with fail
      skip
      refine (V2.out _).mono ?_
      rintro e w2 ⟨rfl, b2⟩
      (have T' := Lib.hid (T.out.below b2))
      (have BW' := Lib.hid (BW.out.trans (b2.mono BW.out.size)))
      clear T BW
      (have T := T')
      (have BW := BW')
      clear T' BW'
      (obtain ⟨⟨zs1, x1, y1, f1, e1⟩, ⟨zs2, x2, y2, f2, e2⟩⟩ := T.out)
      clear b2
      go_wp2_with fail
      go_region_held3 (fun w' => w'.cell? ⟨w.heap.size, 0, none⟩ = some (.int .i64 a) ∧ w'.cell? ⟨w.heap.size, 1, none⟩ = some (.int .i64 b) ∧ w'.cell? ⟨w.heap.size + 1, 0, none⟩ = some (.int .i64 c) ∧ w'.cell? ⟨w.heap.size + 1, 1, none⟩ = some (.int .i64 d)) (first | (go_keep; done) | ((try dsimp only); refine ⟨?_, ?_, ?_, ?_⟩ <;> first | (simp [*]; done) | ((repeat (first | refine Lib.cell?_alloc_some _ ?_ | (rw [World.cell?_setCell_other _ _ _ _ (by intro e; injection e with e1 e2; omega)]))); simp [*]; done)))
      (first
        | (go_at_call_of 32 (Value.int IntKind.i64 a); refine (Da.out _).mono ?_; rintro e w3 ⟨A3, n3, c3, rfl, s3, b3⟩; (have T' := Lib.hid ((T.out.keep (Gr.drewn _)).below b3)); (have BW' := Lib.hid ((BW.out.trans ((Gr.drewn _).below.mono BW.out.size)).trans (b3.mono BW.out.size))); clear T BW; (have T := T'); (have BW := BW'); clear T' BW'; (obtain ⟨⟨zs1, x1, y1, f1, e1⟩, ⟨zs2, x2, y2, f2, e2⟩⟩ := T.out); (have hn3 : n3 ≤ 400 := s3.le (Nat.le_refl _) La.out); (have S3 := Lib.hid s3); clear s3 b3)
        | (go_at_call_of 32 (Value.int IntKind.i64 d); refine (Dd.out _).mono ?_; rintro e w4 ⟨A4, n4, c4, rfl, s4, b4⟩; (have S3 := Lib.hid (S3.out.keep b4)); (have T' := Lib.hid (T.out.below b4)); (have BW' := Lib.hid (BW.out.trans (b4.mono BW.out.size))); clear T BW; (have T := T'); (have BW := BW'); clear T' BW'; (obtain ⟨⟨zs1, x1, y1, f1, e1⟩, ⟨zs2, x2, y2, f2, e2⟩⟩ := T.out); (have hn4 : n4 ≤ 400 := s4.le (Nat.le_refl _) Ld.out); (have S4 := Lib.hid s4); clear s4 b4; (have HT4 := Lib.hid (times_sl S3.out S4.out hn3 hn4)))
        | (go_at_call_of 39 (Value.slice A3 n3 c3); refine (HT4.out).mono ?_; rintro e w5 ⟨A5, n5, c5, rfl, s5, b5⟩; (have T' := Lib.hid (T.out.below b5)); (have BW' := Lib.hid (BW.out.trans (b5.mono BW.out.size))); clear T BW; (have T := T'); (have BW := BW'); clear T' BW'; (obtain ⟨⟨zs1, x1, y1, f1, e1⟩, ⟨zs2, x2, y2, f2, e2⟩⟩ := T.out); (have hn5 : n5 ≤ 400 := s5.le (Nat.le_refl _) (by rw [HP.out]; exact HLP.out)); (have S5 := Lib.hid s5); clear s5 b5))
      rw [HP.out] at S5
      go_wp2_with fail
      go_region_held3 (fun w' => w'.cell? ⟨w.heap.size, 0, none⟩ = some (.int .i64 a) ∧ w'.cell? ⟨w.heap.size, 1, none⟩ = some (.int .i64 b) ∧ w'.cell? ⟨w.heap.size + 1, 0, none⟩ = some (.int .i64 c) ∧ w'.cell? ⟨w.heap.size + 1, 1, none⟩ = some (.int .i64 d)) (first | (go_keep; done) | ((try dsimp only); refine ⟨?_, ?_, ?_, ?_⟩ <;> first | (simp [*]; done) | ((repeat (first | refine Lib.cell?_alloc_some _ ?_ | (rw [World.cell?_setCell_other _ _ _ _ (by intro e; injection e with e1 e2; omega)]))); simp [*]; done)))
      (first
        | (go_at_call_of 32 (Value.int IntKind.i64 c); refine (Dc.out _).mono ?_; rintro e w6 ⟨A6, n6, c6, rfl, s6, b6⟩; (have S5 := Lib.hid ((S5.out.keep (Gr.drewn _).below).keep b6)); (have T' := Lib.hid ((T.out.keep (Gr.drewn _)).below b6)); (have BW' := Lib.hid ((BW.out.trans ((Gr.drewn _).below.mono BW.out.size)).trans (b6.mono BW.out.size))); clear T BW; (have T := T'); (have BW := BW'); clear T' BW'; (obtain ⟨⟨zs1, x1, y1, f1, e1⟩, ⟨zs2, x2, y2, f2, e2⟩⟩ := T.out); (have hn6 : n6 ≤ 400 := s6.le (Nat.le_refl _) Lc.out); (have S6 := Lib.hid s6); clear s6 b6)
        | (go_at_call_of 32 (Value.int IntKind.i64 b); refine (Db.out _).mono ?_; rintro e w7 ⟨A7, n7, c7, rfl, s7, b7⟩; (have S5 := Lib.hid (S5.out.keep b7)); (have S6 := Lib.hid (S6.out.keep b7)); (have T' := Lib.hid (T.out.below b7)); (have BW' := Lib.hid (BW.out.trans (b7.mono BW.out.size))); clear T BW; (have T := T'); (have BW := BW'); clear T' BW'; (obtain ⟨⟨zs1, x1, y1, f1, e1⟩, ⟨zs2, x2, y2, f2, e2⟩⟩ := T.out); (have hn7 : n7 ≤ 400 := s7.le (Nat.le_refl _) Lb.out); (have S7 := Lib.hid s7); clear s7 b7; (have HT7 := Lib.hid (times_sl S6.out S7.out hn6 hn7)))
        | (go_at_call_of 39 (Value.slice A6 n6 c6); refine (HT7.out).mono ?_; rintro e w8 ⟨A8, n8, c8, rfl, s8, b8⟩; (have S5 := Lib.hid (S5.out.keep b8)); (have T' := Lib.hid (T.out.below b8)); (have BW' := Lib.hid (BW.out.trans (b8.mono BW.out.size))); clear T BW; (have T := T'); (have BW := BW'); clear T' BW'; (obtain ⟨⟨zs1, x1, y1, f1, e1⟩, ⟨zs2, x2, y2, f2, e2⟩⟩ := T.out); (have hn8 : n8 ≤ 400 := s8.le (Nat.le_refl _) (by rw [HQ.out]; exact HLQ.out)); (have S8 := Lib.hid s8); clear s8 b8))
      rw [HQ.out] at S8
      have HL1 := Lib.hid (less_sl S5.out S8.out (by omega))
      rw [HQ1.out] at HL1
      go_wp2_with fail
      refine (HL1.out).mono ?_
      rintro e w9 ⟨rfl, gg9⟩
      have b9 := gg9.below
      (have S5 := Lib.hid (S5.out.keep b9))
      (have S8 := Lib.hid (S8.out.keep b9))
      (have T' := Lib.hid (T.out.below b9))
      (have BW' := Lib.hid (BW.out.trans (b9.mono BW.out.size)))
      clear T BW
      (have T := T')
      (have BW := BW')
      clear T' BW'
      (obtain ⟨⟨zs1, x1, y1, f1, e1⟩, ⟨zs2, x2, y2, f2, e2⟩⟩ := T.out)
      clear b9 gg9
      go_wp2_with fail
      go_ret2
      exact ⟨by rw [HC'.out, HF.out]; rfl, BW.out⟩
    · have HQ1 := Lib.hid (show decide (P < Q) = false from decide_eq_false q1)
      by_cases q2 : Q < P
      · have HF := Lib.hid (show (if P < Q then (-1 : Int) else if Q < P then 1 else 0) = 1 by rw [if_neg q1, if_pos q2])
        have HQ2 := Lib.hid (show decide (Q < P) = true from decide_eq_true q2)
        clear q1 q2
        go_enter Tryd.func19, Tryd.ntmps19
        go_wp2_with fail
        have T := Lib.hid (Duo.made w (.int .i64 a) (.int .i64 b) (.int .i64 c) (.int .i64 d))
        have BW := Lib.hid ((Gr.one w (.cells #[.int .i64 a, .int .i64 b] 23)).alloc (.cells #[.int .i64 c, .int .i64 d] 23)).below
        generalize (w.alloc (.cells #[.int .i64 a, .int .i64 b] 23)).alloc (.cells #[.int .i64 c, .int .i64 d] 23) = W at *
        skip
        refine (V1.out _).mono ?_
        rintro e w1 ⟨rfl, b1⟩
        (have T' := Lib.hid (T.out.below b1))
        (have BW' := Lib.hid (BW.out.trans (b1.mono BW.out.size)))
        clear T BW
        (have T := T')
        (have BW := BW')
        clear T' BW'
        (obtain ⟨⟨zs1, x1, y1, f1, e1⟩, ⟨zs2, x2, y2, f2, e2⟩⟩ := T.out)
        clear b1
        go_wp2_with fail
        skip
        refine (V2.out _).mono ?_
        rintro e w2 ⟨rfl, b2⟩
        (have T' := Lib.hid (T.out.below b2))
        (have BW' := Lib.hid (BW.out.trans (b2.mono BW.out.size)))
        clear T BW
        (have T := T')
        (have BW := BW')
        clear T' BW'
        (obtain ⟨⟨zs1, x1, y1, f1, e1⟩, ⟨zs2, x2, y2, f2, e2⟩⟩ := T.out)
        clear b2
        go_wp2_with fail
        go_region_held3 (fun w' => w'.cell? ⟨w.heap.size, 0, none⟩ = some (.int .i64 a) ∧ w'.cell? ⟨w.heap.size, 1, none⟩ = some (.int .i64 b) ∧ w'.cell? ⟨w.heap.size + 1, 0, none⟩ = some (.int .i64 c) ∧ w'.cell? ⟨w.heap.size + 1, 1, none⟩ = some (.int .i64 d)) (first | (go_keep; done) | ((try dsimp only); refine ⟨?_, ?_, ?_, ?_⟩ <;> first | (simp [*]; done) | ((repeat (first | refine Lib.cell?_alloc_some _ ?_ | (rw [World.cell?_setCell_other _ _ _ _ (by intro e; injection e with e1 e2; omega)]))); simp [*]; done)))
      (first
        | (go_at_call_of 32 (Value.int IntKind.i64 a); refine (Da.out _).mono ?_; rintro e w3 ⟨A3, n3, c3, rfl, s3, b3⟩; (have T' := Lib.hid ((T.out.keep (Gr.drewn _)).below b3)); (have BW' := Lib.hid ((BW.out.trans ((Gr.drewn _).below.mono BW.out.size)).trans (b3.mono BW.out.size))); clear T BW; (have T := T'); (have BW := BW'); clear T' BW'; (obtain ⟨⟨zs1, x1, y1, f1, e1⟩, ⟨zs2, x2, y2, f2, e2⟩⟩ := T.out); (have hn3 : n3 ≤ 400 := s3.le (Nat.le_refl _) La.out); (have S3 := Lib.hid s3); clear s3 b3)
        | (go_at_call_of 32 (Value.int IntKind.i64 d); refine (Dd.out _).mono ?_; rintro e w4 ⟨A4, n4, c4, rfl, s4, b4⟩; (have S3 := Lib.hid (S3.out.keep b4)); (have T' := Lib.hid (T.out.below b4)); (have BW' := Lib.hid (BW.out.trans (b4.mono BW.out.size))); clear T BW; (have T := T'); (have BW := BW'); clear T' BW'; (obtain ⟨⟨zs1, x1, y1, f1, e1⟩, ⟨zs2, x2, y2, f2, e2⟩⟩ := T.out); (have hn4 : n4 ≤ 400 := s4.le (Nat.le_refl _) Ld.out); (have S4 := Lib.hid s4); clear s4 b4; (have HT4 := Lib.hid (times_sl S3.out S4.out hn3 hn4)))
        | (go_at_call_of 39 (Value.slice A3 n3 c3); refine (HT4.out).mono ?_; rintro e w5 ⟨A5, n5, c5, rfl, s5, b5⟩; (have T' := Lib.hid (T.out.below b5)); (have BW' := Lib.hid (BW.out.trans (b5.mono BW.out.size))); clear T BW; (have T := T'); (have BW := BW'); clear T' BW'; (obtain ⟨⟨zs1, x1, y1, f1, e1⟩, ⟨zs2, x2, y2, f2, e2⟩⟩ := T.out); (have hn5 : n5 ≤ 400 := s5.le (Nat.le_refl _) (by rw [HP.out]; exact HLP.out)); (have S5 := Lib.hid s5); clear s5 b5))
        rw [HP.out] at S5
        go_wp2_with fail
        go_region_held3 (fun w' => w'.cell? ⟨w.heap.size, 0, none⟩ = some (.int .i64 a) ∧ w'.cell? ⟨w.heap.size, 1, none⟩ = some (.int .i64 b) ∧ w'.cell? ⟨w.heap.size + 1, 0, none⟩ = some (.int .i64 c) ∧ w'.cell? ⟨w.heap.size + 1, 1, none⟩ = some (.int .i64 d)) (first | (go_keep; done) | ((try dsimp only); refine ⟨?_, ?_, ?_, ?_⟩ <;> first | (simp [*]; done) | ((repeat (first | refine Lib.cell?_alloc_some _ ?_ | (rw [World.cell?_setCell_other _ _ _ _ (by intro e; injection e with e1 e2; omega)]))); simp [*]; done)))
      (first
        | (go_at_call_of 32 (Value.int IntKind.i64 c); refine (Dc.out _).mono ?_; rintro e w6 ⟨A6, n6, c6, rfl, s6, b6⟩; (have S5 := Lib.hid ((S5.out.keep (Gr.drewn _).below).keep b6)); (have T' := Lib.hid ((T.out.keep (Gr.drewn _)).below b6)); (have BW' := Lib.hid ((BW.out.trans ((Gr.drewn _).below.mono BW.out.size)).trans (b6.mono BW.out.size))); clear T BW; (have T := T'); (have BW := BW'); clear T' BW'; (obtain ⟨⟨zs1, x1, y1, f1, e1⟩, ⟨zs2, x2, y2, f2, e2⟩⟩ := T.out); (have hn6 : n6 ≤ 400 := s6.le (Nat.le_refl _) Lc.out); (have S6 := Lib.hid s6); clear s6 b6)
        | (go_at_call_of 32 (Value.int IntKind.i64 b); refine (Db.out _).mono ?_; rintro e w7 ⟨A7, n7, c7, rfl, s7, b7⟩; (have S5 := Lib.hid (S5.out.keep b7)); (have S6 := Lib.hid (S6.out.keep b7)); (have T' := Lib.hid (T.out.below b7)); (have BW' := Lib.hid (BW.out.trans (b7.mono BW.out.size))); clear T BW; (have T := T'); (have BW := BW'); clear T' BW'; (obtain ⟨⟨zs1, x1, y1, f1, e1⟩, ⟨zs2, x2, y2, f2, e2⟩⟩ := T.out); (have hn7 : n7 ≤ 400 := s7.le (Nat.le_refl _) Lb.out); (have S7 := Lib.hid s7); clear s7 b7; (have HT7 := Lib.hid (times_sl S6.out S7.out hn6 hn7)))
        | (go_at_call_of 39 (Value.slice A6 n6 c6); refine (HT7.out).mono ?_; rintro e w8 ⟨A8, n8, c8, rfl, s8, b8⟩; (have S5 := Lib.hid (S5.out.keep b8)); (have T' := Lib.hid (T.out.below b8)); (have BW' := Lib.hid (BW.out.trans (b8.mono BW.out.size))); clear T BW; (have T := T'); (have BW := BW'); clear T' BW'; (obtain ⟨⟨zs1, x1, y1, f1, e1⟩, ⟨zs2, x2, y2, f2, e2⟩⟩ := T.out); (have hn8 : n8 ≤ 400 := s8.le (Nat.le_refl _) (by rw [HQ.out]; exact HLQ.out)); (have S8 := Lib.hid s8); clear s8 b8))
        rw [HQ.out] at S8
        have HL1 := Lib.hid (less_sl S5.out S8.out (by omega))
        rw [HQ1.out] at HL1
        go_wp2_with fail
        refine (HL1.out).mono ?_
        rintro e w9 ⟨rfl, gg9⟩
        have b9 := gg9.below
        (have S5 := Lib.hid (S5.out.keep b9))
        (have S8 := Lib.hid (S8.out.keep b9))
        (have T' := Lib.hid (T.out.below b9))
        (have BW' := Lib.hid (BW.out.trans (b9.mono BW.out.size)))
        clear T BW
        (have T := T')
        (have BW := BW')
        clear T' BW'
        (obtain ⟨⟨zs1, x1, y1, f1, e1⟩, ⟨zs2, x2, y2, f2, e2⟩⟩ := T.out)
        clear b9 gg9
        have HL2 := Lib.hid (less_sl S8.out S5.out (by omega))
        rw [HQ2.out] at HL2
        go_wp2_with fail
        refine (HL2.out).mono ?_
        rintro e w10 ⟨rfl, gg10⟩
        have b10 := gg10.below
        (have S5 := Lib.hid (S5.out.keep b10))
        (have S8 := Lib.hid (S8.out.keep b10))
        (have T' := Lib.hid (T.out.below b10))
        (have BW' := Lib.hid (BW.out.trans (b10.mono BW.out.size)))
        clear T BW
        (have T := T')
        (have BW := BW')
        clear T' BW'
        (obtain ⟨⟨zs1, x1, y1, f1, e1⟩, ⟨zs2, x2, y2, f2, e2⟩⟩ := T.out)
        clear b10 gg10
        go_wp2_with fail
        go_ret2
        exact ⟨by rw [HC'.out, HF.out]; rfl, BW.out⟩
      · have HF := Lib.hid (show (if P < Q then (-1 : Int) else if Q < P then 1 else 0) = 0 by rw [if_neg q1, if_neg q2])
        have HQ2 := Lib.hid (show decide (Q < P) = false from decide_eq_false q2)
        clear q1 q2
        go_enter Tryd.func19, Tryd.ntmps19
        go_wp2_with fail
        have T := Lib.hid (Duo.made w (.int .i64 a) (.int .i64 b) (.int .i64 c) (.int .i64 d))
        have BW := Lib.hid ((Gr.one w (.cells #[.int .i64 a, .int .i64 b] 23)).alloc (.cells #[.int .i64 c, .int .i64 d] 23)).below
        generalize (w.alloc (.cells #[.int .i64 a, .int .i64 b] 23)).alloc (.cells #[.int .i64 c, .int .i64 d] 23) = W at *
        skip
        refine (V1.out _).mono ?_
        rintro e w1 ⟨rfl, b1⟩
        (have T' := Lib.hid (T.out.below b1))
        (have BW' := Lib.hid (BW.out.trans (b1.mono BW.out.size)))
        clear T BW
        (have T := T')
        (have BW := BW')
        clear T' BW'
        (obtain ⟨⟨zs1, x1, y1, f1, e1⟩, ⟨zs2, x2, y2, f2, e2⟩⟩ := T.out)
        clear b1
        go_wp2_with fail
        skip
        refine (V2.out _).mono ?_
        rintro e w2 ⟨rfl, b2⟩
        (have T' := Lib.hid (T.out.below b2))
        (have BW' := Lib.hid (BW.out.trans (b2.mono BW.out.size)))
        clear T BW
        (have T := T')
        (have BW := BW')
        clear T' BW'
        (obtain ⟨⟨zs1, x1, y1, f1, e1⟩, ⟨zs2, x2, y2, f2, e2⟩⟩ := T.out)
        clear b2
        go_wp2_with fail
        go_region_held3 (fun w' => w'.cell? ⟨w.heap.size, 0, none⟩ = some (.int .i64 a) ∧ w'.cell? ⟨w.heap.size, 1, none⟩ = some (.int .i64 b) ∧ w'.cell? ⟨w.heap.size + 1, 0, none⟩ = some (.int .i64 c) ∧ w'.cell? ⟨w.heap.size + 1, 1, none⟩ = some (.int .i64 d)) (first | (go_keep; done) | ((try dsimp only); refine ⟨?_, ?_, ?_, ?_⟩ <;> first | (simp [*]; done) | ((repeat (first | refine Lib.cell?_alloc_some _ ?_ | (rw [World.cell?_setCell_other _ _ _ _ (by intro e; injection e with e1 e2; omega)]))); simp [*]; done)))
      (first
        | (go_at_call_of 32 (Value.int IntKind.i64 a); refine (Da.out _).mono ?_; rintro e w3 ⟨A3, n3, c3, rfl, s3, b3⟩; (have T' := Lib.hid ((T.out.keep (Gr.drewn _)).below b3)); (have BW' := Lib.hid ((BW.out.trans ((Gr.drewn _).below.mono BW.out.size)).trans (b3.mono BW.out.size))); clear T BW; (have T := T'); (have BW := BW'); clear T' BW'; (obtain ⟨⟨zs1, x1, y1, f1, e1⟩, ⟨zs2, x2, y2, f2, e2⟩⟩ := T.out); (have hn3 : n3 ≤ 400 := s3.le (Nat.le_refl _) La.out); (have S3 := Lib.hid s3); clear s3 b3)
        | (go_at_call_of 32 (Value.int IntKind.i64 d); refine (Dd.out _).mono ?_; rintro e w4 ⟨A4, n4, c4, rfl, s4, b4⟩; (have S3 := Lib.hid (S3.out.keep b4)); (have T' := Lib.hid (T.out.below b4)); (have BW' := Lib.hid (BW.out.trans (b4.mono BW.out.size))); clear T BW; (have T := T'); (have BW := BW'); clear T' BW'; (obtain ⟨⟨zs1, x1, y1, f1, e1⟩, ⟨zs2, x2, y2, f2, e2⟩⟩ := T.out); (have hn4 : n4 ≤ 400 := s4.le (Nat.le_refl _) Ld.out); (have S4 := Lib.hid s4); clear s4 b4; (have HT4 := Lib.hid (times_sl S3.out S4.out hn3 hn4)))
        | (go_at_call_of 39 (Value.slice A3 n3 c3); refine (HT4.out).mono ?_; rintro e w5 ⟨A5, n5, c5, rfl, s5, b5⟩; (have T' := Lib.hid (T.out.below b5)); (have BW' := Lib.hid (BW.out.trans (b5.mono BW.out.size))); clear T BW; (have T := T'); (have BW := BW'); clear T' BW'; (obtain ⟨⟨zs1, x1, y1, f1, e1⟩, ⟨zs2, x2, y2, f2, e2⟩⟩ := T.out); (have hn5 : n5 ≤ 400 := s5.le (Nat.le_refl _) (by rw [HP.out]; exact HLP.out)); (have S5 := Lib.hid s5); clear s5 b5))
        rw [HP.out] at S5
        go_wp2_with fail
        go_region_held3 (fun w' => w'.cell? ⟨w.heap.size, 0, none⟩ = some (.int .i64 a) ∧ w'.cell? ⟨w.heap.size, 1, none⟩ = some (.int .i64 b) ∧ w'.cell? ⟨w.heap.size + 1, 0, none⟩ = some (.int .i64 c) ∧ w'.cell? ⟨w.heap.size + 1, 1, none⟩ = some (.int .i64 d)) (first | (go_keep; done) | ((try dsimp only); refine ⟨?_, ?_, ?_, ?_⟩ <;> first | (simp [*]; done) | ((repeat (first | refine Lib.cell?_alloc_some _ ?_ | (rw [World.cell?_setCell_other _ _ _ _ (by intro e; injection e with e1 e2; omega)]))); simp [*]; done)))
      (first
        | (go_at_call_of 32 (Value.int IntKind.i64 c); refine (Dc.out _).mono ?_; rintro e w6 ⟨A6, n6, c6, rfl, s6, b6⟩; (have S5 := Lib.hid ((S5.out.keep (Gr.drewn _).below).keep b6)); (have T' := Lib.hid ((T.out.keep (Gr.drewn _)).below b6)); (have BW' := Lib.hid ((BW.out.trans ((Gr.drewn _).below.mono BW.out.size)).trans (b6.mono BW.out.size))); clear T BW; (have T := T'); (have BW := BW'); clear T' BW'; (obtain ⟨⟨zs1, x1, y1, f1, e1⟩, ⟨zs2, x2, y2, f2, e2⟩⟩ := T.out); (have hn6 : n6 ≤ 400 := s6.le (Nat.le_refl _) Lc.out); (have S6 := Lib.hid s6); clear s6 b6)
        | (go_at_call_of 32 (Value.int IntKind.i64 b); refine (Db.out _).mono ?_; rintro e w7 ⟨A7, n7, c7, rfl, s7, b7⟩; (have S5 := Lib.hid (S5.out.keep b7)); (have S6 := Lib.hid (S6.out.keep b7)); (have T' := Lib.hid (T.out.below b7)); (have BW' := Lib.hid (BW.out.trans (b7.mono BW.out.size))); clear T BW; (have T := T'); (have BW := BW'); clear T' BW'; (obtain ⟨⟨zs1, x1, y1, f1, e1⟩, ⟨zs2, x2, y2, f2, e2⟩⟩ := T.out); (have hn7 : n7 ≤ 400 := s7.le (Nat.le_refl _) Lb.out); (have S7 := Lib.hid s7); clear s7 b7; (have HT7 := Lib.hid (times_sl S6.out S7.out hn6 hn7)))
        | (go_at_call_of 39 (Value.slice A6 n6 c6); refine (HT7.out).mono ?_; rintro e w8 ⟨A8, n8, c8, rfl, s8, b8⟩; (have S5 := Lib.hid (S5.out.keep b8)); (have T' := Lib.hid (T.out.below b8)); (have BW' := Lib.hid (BW.out.trans (b8.mono BW.out.size))); clear T BW; (have T := T'); (have BW := BW'); clear T' BW'; (obtain ⟨⟨zs1, x1, y1, f1, e1⟩, ⟨zs2, x2, y2, f2, e2⟩⟩ := T.out); (have hn8 : n8 ≤ 400 := s8.le (Nat.le_refl _) (by rw [HQ.out]; exact HLQ.out)); (have S8 := Lib.hid s8); clear s8 b8))
        rw [HQ.out] at S8
        have HL1 := Lib.hid (less_sl S5.out S8.out (by omega))
        rw [HQ1.out] at HL1
        go_wp2_with fail
        refine (HL1.out).mono ?_
        rintro e w9 ⟨rfl, gg9⟩
        have b9 := gg9.below
        (have S5 := Lib.hid (S5.out.keep b9))
        (have S8 := Lib.hid (S8.out.keep b9))
        (have T' := Lib.hid (T.out.below b9))
        (have BW' := Lib.hid (BW.out.trans (b9.mono BW.out.size)))
        clear T BW
        (have T := T')
        (have BW := BW')
        clear T' BW'
        (obtain ⟨⟨zs1, x1, y1, f1, e1⟩, ⟨zs2, x2, y2, f2, e2⟩⟩ := T.out)
        clear b9 gg9
        have HL2 := Lib.hid (less_sl S8.out S5.out (by omega))
        rw [HQ2.out] at HL2
        go_wp2_with fail
        refine (HL2.out).mono ?_
        rintro e w10 ⟨rfl, gg10⟩
        have b10 := gg10.below
        (have S5 := Lib.hid (S5.out.keep b10))
        (have S8 := Lib.hid (S8.out.keep b10))
        (have T' := Lib.hid (T.out.below b10))
        (have BW' := Lib.hid (BW.out.trans (b10.mono BW.out.size)))
        clear T BW
        (have T := T')
        (have BW := BW')
        clear T' BW'
        (obtain ⟨⟨zs1, x1, y1, f1, e1⟩, ⟨zs2, x2, y2, f2, e2⟩⟩ := T.out)
        clear b10 gg10
        go_wp2_with fail
        go_ret2
        exact ⟨by rw [HC'.out, HF.out]; rfl, BW.out⟩
  · have HC' : Hid (C = if Q < P then -1 else if P < Q then 1 else 0) := Lib.hid HC.out
    clear HC
    by_cases q1 : Q < P
    · have HF := Lib.hid (show (if Q < P then (-1 : Int) else if P < Q then 1 else 0) = -1 from if_pos q1)
      have HQ1 := Lib.hid (show decide (Q < P) = true from decide_eq_true q1)
      clear q1
      go_enter Tryd.func19, Tryd.ntmps19
      go_wp2_with fail
      have T := Lib.hid (Duo.made w (.int .i64 a) (.int .i64 b) (.int .i64 c) (.int .i64 d))
      have BW := Lib.hid ((Gr.one w (.cells #[.int .i64 a, .int .i64 b] 23)).alloc (.cells #[.int .i64 c, .int .i64 d] 23)).below
      generalize (w.alloc (.cells #[.int .i64 a, .int .i64 b] 23)).alloc (.cells #[.int .i64 c, .int .i64 d] 23) = W at *
      skip
      refine (V1.out _).mono ?_
      rintro e w1 ⟨rfl, b1⟩
      (have T' := Lib.hid (T.out.below b1))
      (have BW' := Lib.hid (BW.out.trans (b1.mono BW.out.size)))
      clear T BW
      (have T := T')
      (have BW := BW')
      clear T' BW'
      (obtain ⟨⟨zs1, x1, y1, f1, e1⟩, ⟨zs2, x2, y2, f2, e2⟩⟩ := T.out)
      clear b1
      go_wp2_with fail
      skip
      refine (V2.out _).mono ?_
      rintro e w2 ⟨rfl, b2⟩
      (have T' := Lib.hid (T.out.below b2))
      (have BW' := Lib.hid (BW.out.trans (b2.mono BW.out.size)))
      clear T BW
      (have T := T')
      (have BW := BW')
      clear T' BW'
      (obtain ⟨⟨zs1, x1, y1, f1, e1⟩, ⟨zs2, x2, y2, f2, e2⟩⟩ := T.out)
      clear b2
      go_wp2_with fail
      go_region_held3 (fun w' => w'.cell? ⟨w.heap.size, 0, none⟩ = some (.int .i64 a) ∧ w'.cell? ⟨w.heap.size, 1, none⟩ = some (.int .i64 b) ∧ w'.cell? ⟨w.heap.size + 1, 0, none⟩ = some (.int .i64 c) ∧ w'.cell? ⟨w.heap.size + 1, 1, none⟩ = some (.int .i64 d)) (first | (go_keep; done) | ((try dsimp only); refine ⟨?_, ?_, ?_, ?_⟩ <;> first | (simp [*]; done) | ((repeat (first | refine Lib.cell?_alloc_some _ ?_ | (rw [World.cell?_setCell_other _ _ _ _ (by intro e; injection e with e1 e2; omega)]))); simp [*]; done)))
      (first
        | (go_at_call_of 32 (Value.int IntKind.i64 a); refine (Da.out _).mono ?_; rintro e w3 ⟨A3, n3, c3, rfl, s3, b3⟩; (have T' := Lib.hid ((T.out.keep (Gr.drewn _)).below b3)); (have BW' := Lib.hid ((BW.out.trans ((Gr.drewn _).below.mono BW.out.size)).trans (b3.mono BW.out.size))); clear T BW; (have T := T'); (have BW := BW'); clear T' BW'; (obtain ⟨⟨zs1, x1, y1, f1, e1⟩, ⟨zs2, x2, y2, f2, e2⟩⟩ := T.out); (have hn3 : n3 ≤ 400 := s3.le (Nat.le_refl _) La.out); (have S3 := Lib.hid s3); clear s3 b3)
        | (go_at_call_of 32 (Value.int IntKind.i64 d); refine (Dd.out _).mono ?_; rintro e w4 ⟨A4, n4, c4, rfl, s4, b4⟩; (have S3 := Lib.hid (S3.out.keep b4)); (have T' := Lib.hid (T.out.below b4)); (have BW' := Lib.hid (BW.out.trans (b4.mono BW.out.size))); clear T BW; (have T := T'); (have BW := BW'); clear T' BW'; (obtain ⟨⟨zs1, x1, y1, f1, e1⟩, ⟨zs2, x2, y2, f2, e2⟩⟩ := T.out); (have hn4 : n4 ≤ 400 := s4.le (Nat.le_refl _) Ld.out); (have S4 := Lib.hid s4); clear s4 b4; (have HT4 := Lib.hid (times_sl S3.out S4.out hn3 hn4)))
        | (go_at_call_of 39 (Value.slice A3 n3 c3); refine (HT4.out).mono ?_; rintro e w5 ⟨A5, n5, c5, rfl, s5, b5⟩; (have T' := Lib.hid (T.out.below b5)); (have BW' := Lib.hid (BW.out.trans (b5.mono BW.out.size))); clear T BW; (have T := T'); (have BW := BW'); clear T' BW'; (obtain ⟨⟨zs1, x1, y1, f1, e1⟩, ⟨zs2, x2, y2, f2, e2⟩⟩ := T.out); (have hn5 : n5 ≤ 400 := s5.le (Nat.le_refl _) (by rw [HP.out]; exact HLP.out)); (have S5 := Lib.hid s5); clear s5 b5))
      rw [HP.out] at S5
      go_wp2_with fail
      go_region_held3 (fun w' => w'.cell? ⟨w.heap.size, 0, none⟩ = some (.int .i64 a) ∧ w'.cell? ⟨w.heap.size, 1, none⟩ = some (.int .i64 b) ∧ w'.cell? ⟨w.heap.size + 1, 0, none⟩ = some (.int .i64 c) ∧ w'.cell? ⟨w.heap.size + 1, 1, none⟩ = some (.int .i64 d)) (first | (go_keep; done) | ((try dsimp only); refine ⟨?_, ?_, ?_, ?_⟩ <;> first | (simp [*]; done) | ((repeat (first | refine Lib.cell?_alloc_some _ ?_ | (rw [World.cell?_setCell_other _ _ _ _ (by intro e; injection e with e1 e2; omega)]))); simp [*]; done)))
      (first
        | (go_at_call_of 32 (Value.int IntKind.i64 c); refine (Dc.out _).mono ?_; rintro e w6 ⟨A6, n6, c6, rfl, s6, b6⟩; (have S5 := Lib.hid ((S5.out.keep (Gr.drewn _).below).keep b6)); (have T' := Lib.hid ((T.out.keep (Gr.drewn _)).below b6)); (have BW' := Lib.hid ((BW.out.trans ((Gr.drewn _).below.mono BW.out.size)).trans (b6.mono BW.out.size))); clear T BW; (have T := T'); (have BW := BW'); clear T' BW'; (obtain ⟨⟨zs1, x1, y1, f1, e1⟩, ⟨zs2, x2, y2, f2, e2⟩⟩ := T.out); (have hn6 : n6 ≤ 400 := s6.le (Nat.le_refl _) Lc.out); (have S6 := Lib.hid s6); clear s6 b6)
        | (go_at_call_of 32 (Value.int IntKind.i64 b); refine (Db.out _).mono ?_; rintro e w7 ⟨A7, n7, c7, rfl, s7, b7⟩; (have S5 := Lib.hid (S5.out.keep b7)); (have S6 := Lib.hid (S6.out.keep b7)); (have T' := Lib.hid (T.out.below b7)); (have BW' := Lib.hid (BW.out.trans (b7.mono BW.out.size))); clear T BW; (have T := T'); (have BW := BW'); clear T' BW'; (obtain ⟨⟨zs1, x1, y1, f1, e1⟩, ⟨zs2, x2, y2, f2, e2⟩⟩ := T.out); (have hn7 : n7 ≤ 400 := s7.le (Nat.le_refl _) Lb.out); (have S7 := Lib.hid s7); clear s7 b7; (have HT7 := Lib.hid (times_sl S6.out S7.out hn6 hn7)))
        | (go_at_call_of 39 (Value.slice A6 n6 c6); refine (HT7.out).mono ?_; rintro e w8 ⟨A8, n8, c8, rfl, s8, b8⟩; (have S5 := Lib.hid (S5.out.keep b8)); (have T' := Lib.hid (T.out.below b8)); (have BW' := Lib.hid (BW.out.trans (b8.mono BW.out.size))); clear T BW; (have T := T'); (have BW := BW'); clear T' BW'; (obtain ⟨⟨zs1, x1, y1, f1, e1⟩, ⟨zs2, x2, y2, f2, e2⟩⟩ := T.out); (have hn8 : n8 ≤ 400 := s8.le (Nat.le_refl _) (by rw [HQ.out]; exact HLQ.out)); (have S8 := Lib.hid s8); clear s8 b8))
      rw [HQ.out] at S8
      have HL1 := Lib.hid (less_sl S8.out S5.out (by omega))
      rw [HQ1.out] at HL1
      go_wp2_with fail
      refine (HL1.out).mono ?_
      rintro e w9 ⟨rfl, gg9⟩
      have b9 := gg9.below
      (have S5 := Lib.hid (S5.out.keep b9))
      (have S8 := Lib.hid (S8.out.keep b9))
      (have T' := Lib.hid (T.out.below b9))
      (have BW' := Lib.hid (BW.out.trans (b9.mono BW.out.size)))
      clear T BW
      (have T := T')
      (have BW := BW')
      clear T' BW'
      (obtain ⟨⟨zs1, x1, y1, f1, e1⟩, ⟨zs2, x2, y2, f2, e2⟩⟩ := T.out)
      clear b9 gg9
      go_wp2_with fail
      go_ret2
      exact ⟨by rw [HC'.out, HF.out]; rfl, BW.out⟩
    · have HQ1 := Lib.hid (show decide (Q < P) = false from decide_eq_false q1)
      by_cases q2 : P < Q
      · have HF := Lib.hid (show (if Q < P then (-1 : Int) else if P < Q then 1 else 0) = 1 by rw [if_neg q1, if_pos q2])
        have HQ2 := Lib.hid (show decide (P < Q) = true from decide_eq_true q2)
        clear q1 q2
        go_enter Tryd.func19, Tryd.ntmps19
        go_wp2_with fail
        have T := Lib.hid (Duo.made w (.int .i64 a) (.int .i64 b) (.int .i64 c) (.int .i64 d))
        have BW := Lib.hid ((Gr.one w (.cells #[.int .i64 a, .int .i64 b] 23)).alloc (.cells #[.int .i64 c, .int .i64 d] 23)).below
        generalize (w.alloc (.cells #[.int .i64 a, .int .i64 b] 23)).alloc (.cells #[.int .i64 c, .int .i64 d] 23) = W at *
        skip
        refine (V1.out _).mono ?_
        rintro e w1 ⟨rfl, b1⟩
        (have T' := Lib.hid (T.out.below b1))
        (have BW' := Lib.hid (BW.out.trans (b1.mono BW.out.size)))
        clear T BW
        (have T := T')
        (have BW := BW')
        clear T' BW'
        (obtain ⟨⟨zs1, x1, y1, f1, e1⟩, ⟨zs2, x2, y2, f2, e2⟩⟩ := T.out)
        clear b1
        go_wp2_with fail
        skip
        refine (V2.out _).mono ?_
        rintro e w2 ⟨rfl, b2⟩
        (have T' := Lib.hid (T.out.below b2))
        (have BW' := Lib.hid (BW.out.trans (b2.mono BW.out.size)))
        clear T BW
        (have T := T')
        (have BW := BW')
        clear T' BW'
        (obtain ⟨⟨zs1, x1, y1, f1, e1⟩, ⟨zs2, x2, y2, f2, e2⟩⟩ := T.out)
        clear b2
        go_wp2_with fail
        go_region_held3 (fun w' => w'.cell? ⟨w.heap.size, 0, none⟩ = some (.int .i64 a) ∧ w'.cell? ⟨w.heap.size, 1, none⟩ = some (.int .i64 b) ∧ w'.cell? ⟨w.heap.size + 1, 0, none⟩ = some (.int .i64 c) ∧ w'.cell? ⟨w.heap.size + 1, 1, none⟩ = some (.int .i64 d)) (first | (go_keep; done) | ((try dsimp only); refine ⟨?_, ?_, ?_, ?_⟩ <;> first | (simp [*]; done) | ((repeat (first | refine Lib.cell?_alloc_some _ ?_ | (rw [World.cell?_setCell_other _ _ _ _ (by intro e; injection e with e1 e2; omega)]))); simp [*]; done)))
      (first
        | (go_at_call_of 32 (Value.int IntKind.i64 a); refine (Da.out _).mono ?_; rintro e w3 ⟨A3, n3, c3, rfl, s3, b3⟩; (have T' := Lib.hid ((T.out.keep (Gr.drewn _)).below b3)); (have BW' := Lib.hid ((BW.out.trans ((Gr.drewn _).below.mono BW.out.size)).trans (b3.mono BW.out.size))); clear T BW; (have T := T'); (have BW := BW'); clear T' BW'; (obtain ⟨⟨zs1, x1, y1, f1, e1⟩, ⟨zs2, x2, y2, f2, e2⟩⟩ := T.out); (have hn3 : n3 ≤ 400 := s3.le (Nat.le_refl _) La.out); (have S3 := Lib.hid s3); clear s3 b3)
        | (go_at_call_of 32 (Value.int IntKind.i64 d); refine (Dd.out _).mono ?_; rintro e w4 ⟨A4, n4, c4, rfl, s4, b4⟩; (have S3 := Lib.hid (S3.out.keep b4)); (have T' := Lib.hid (T.out.below b4)); (have BW' := Lib.hid (BW.out.trans (b4.mono BW.out.size))); clear T BW; (have T := T'); (have BW := BW'); clear T' BW'; (obtain ⟨⟨zs1, x1, y1, f1, e1⟩, ⟨zs2, x2, y2, f2, e2⟩⟩ := T.out); (have hn4 : n4 ≤ 400 := s4.le (Nat.le_refl _) Ld.out); (have S4 := Lib.hid s4); clear s4 b4; (have HT4 := Lib.hid (times_sl S3.out S4.out hn3 hn4)))
        | (go_at_call_of 39 (Value.slice A3 n3 c3); refine (HT4.out).mono ?_; rintro e w5 ⟨A5, n5, c5, rfl, s5, b5⟩; (have T' := Lib.hid (T.out.below b5)); (have BW' := Lib.hid (BW.out.trans (b5.mono BW.out.size))); clear T BW; (have T := T'); (have BW := BW'); clear T' BW'; (obtain ⟨⟨zs1, x1, y1, f1, e1⟩, ⟨zs2, x2, y2, f2, e2⟩⟩ := T.out); (have hn5 : n5 ≤ 400 := s5.le (Nat.le_refl _) (by rw [HP.out]; exact HLP.out)); (have S5 := Lib.hid s5); clear s5 b5))
        rw [HP.out] at S5
        go_wp2_with fail
        go_region_held3 (fun w' => w'.cell? ⟨w.heap.size, 0, none⟩ = some (.int .i64 a) ∧ w'.cell? ⟨w.heap.size, 1, none⟩ = some (.int .i64 b) ∧ w'.cell? ⟨w.heap.size + 1, 0, none⟩ = some (.int .i64 c) ∧ w'.cell? ⟨w.heap.size + 1, 1, none⟩ = some (.int .i64 d)) (first | (go_keep; done) | ((try dsimp only); refine ⟨?_, ?_, ?_, ?_⟩ <;> first | (simp [*]; done) | ((repeat (first | refine Lib.cell?_alloc_some _ ?_ | (rw [World.cell?_setCell_other _ _ _ _ (by intro e; injection e with e1 e2; omega)]))); simp [*]; done)))
      (first
        | (go_at_call_of 32 (Value.int IntKind.i64 c); refine (Dc.out _).mono ?_; rintro e w6 ⟨A6, n6, c6, rfl, s6, b6⟩; (have S5 := Lib.hid ((S5.out.keep (Gr.drewn _).below).keep b6)); (have T' := Lib.hid ((T.out.keep (Gr.drewn _)).below b6)); (have BW' := Lib.hid ((BW.out.trans ((Gr.drewn _).below.mono BW.out.size)).trans (b6.mono BW.out.size))); clear T BW; (have T := T'); (have BW := BW'); clear T' BW'; (obtain ⟨⟨zs1, x1, y1, f1, e1⟩, ⟨zs2, x2, y2, f2, e2⟩⟩ := T.out); (have hn6 : n6 ≤ 400 := s6.le (Nat.le_refl _) Lc.out); (have S6 := Lib.hid s6); clear s6 b6)
        | (go_at_call_of 32 (Value.int IntKind.i64 b); refine (Db.out _).mono ?_; rintro e w7 ⟨A7, n7, c7, rfl, s7, b7⟩; (have S5 := Lib.hid (S5.out.keep b7)); (have S6 := Lib.hid (S6.out.keep b7)); (have T' := Lib.hid (T.out.below b7)); (have BW' := Lib.hid (BW.out.trans (b7.mono BW.out.size))); clear T BW; (have T := T'); (have BW := BW'); clear T' BW'; (obtain ⟨⟨zs1, x1, y1, f1, e1⟩, ⟨zs2, x2, y2, f2, e2⟩⟩ := T.out); (have hn7 : n7 ≤ 400 := s7.le (Nat.le_refl _) Lb.out); (have S7 := Lib.hid s7); clear s7 b7; (have HT7 := Lib.hid (times_sl S6.out S7.out hn6 hn7)))
        | (go_at_call_of 39 (Value.slice A6 n6 c6); refine (HT7.out).mono ?_; rintro e w8 ⟨A8, n8, c8, rfl, s8, b8⟩; (have S5 := Lib.hid (S5.out.keep b8)); (have T' := Lib.hid (T.out.below b8)); (have BW' := Lib.hid (BW.out.trans (b8.mono BW.out.size))); clear T BW; (have T := T'); (have BW := BW'); clear T' BW'; (obtain ⟨⟨zs1, x1, y1, f1, e1⟩, ⟨zs2, x2, y2, f2, e2⟩⟩ := T.out); (have hn8 : n8 ≤ 400 := s8.le (Nat.le_refl _) (by rw [HQ.out]; exact HLQ.out)); (have S8 := Lib.hid s8); clear s8 b8))
        rw [HQ.out] at S8
        have HL1 := Lib.hid (less_sl S8.out S5.out (by omega))
        rw [HQ1.out] at HL1
        go_wp2_with fail
        refine (HL1.out).mono ?_
        rintro e w9 ⟨rfl, gg9⟩
        have b9 := gg9.below
        (have S5 := Lib.hid (S5.out.keep b9))
        (have S8 := Lib.hid (S8.out.keep b9))
        (have T' := Lib.hid (T.out.below b9))
        (have BW' := Lib.hid (BW.out.trans (b9.mono BW.out.size)))
        clear T BW
        (have T := T')
        (have BW := BW')
        clear T' BW'
        (obtain ⟨⟨zs1, x1, y1, f1, e1⟩, ⟨zs2, x2, y2, f2, e2⟩⟩ := T.out)
        clear b9 gg9
        have HL2 := Lib.hid (less_sl S5.out S8.out (by omega))
        rw [HQ2.out] at HL2
        go_wp2_with fail
        refine (HL2.out).mono ?_
        rintro e w10 ⟨rfl, gg10⟩
        have b10 := gg10.below
        (have S5 := Lib.hid (S5.out.keep b10))
        (have S8 := Lib.hid (S8.out.keep b10))
        (have T' := Lib.hid (T.out.below b10))
        (have BW' := Lib.hid (BW.out.trans (b10.mono BW.out.size)))
        clear T BW
        (have T := T')
        (have BW := BW')
        clear T' BW'
        (obtain ⟨⟨zs1, x1, y1, f1, e1⟩, ⟨zs2, x2, y2, f2, e2⟩⟩ := T.out)
        clear b10 gg10
        go_wp2_with fail
        go_ret2
        exact ⟨by rw [HC'.out, HF.out]; rfl, BW.out⟩
      · have HF := Lib.hid (show (if Q < P then (-1 : Int) else if P < Q then 1 else 0) = 0 by rw [if_neg q1, if_neg q2])
        have HQ2 := Lib.hid (show decide (P < Q) = false from decide_eq_false q2)
        clear q1 q2
        go_enter Tryd.func19, Tryd.ntmps19
        go_wp2_with fail
        have T := Lib.hid (Duo.made w (.int .i64 a) (.int .i64 b) (.int .i64 c) (.int .i64 d))
        have BW := Lib.hid ((Gr.one w (.cells #[.int .i64 a, .int .i64 b] 23)).alloc (.cells #[.int .i64 c, .int .i64 d] 23)).below
        generalize (w.alloc (.cells #[.int .i64 a, .int .i64 b] 23)).alloc (.cells #[.int .i64 c, .int .i64 d] 23) = W at *
        skip
        refine (V1.out _).mono ?_
        rintro e w1 ⟨rfl, b1⟩
        (have T' := Lib.hid (T.out.below b1))
        (have BW' := Lib.hid (BW.out.trans (b1.mono BW.out.size)))
        clear T BW
        (have T := T')
        (have BW := BW')
        clear T' BW'
        (obtain ⟨⟨zs1, x1, y1, f1, e1⟩, ⟨zs2, x2, y2, f2, e2⟩⟩ := T.out)
        clear b1
        go_wp2_with fail
        skip
        refine (V2.out _).mono ?_
        rintro e w2 ⟨rfl, b2⟩
        (have T' := Lib.hid (T.out.below b2))
        (have BW' := Lib.hid (BW.out.trans (b2.mono BW.out.size)))
        clear T BW
        (have T := T')
        (have BW := BW')
        clear T' BW'
        (obtain ⟨⟨zs1, x1, y1, f1, e1⟩, ⟨zs2, x2, y2, f2, e2⟩⟩ := T.out)
        clear b2
        go_wp2_with fail
        go_region_held3 (fun w' => w'.cell? ⟨w.heap.size, 0, none⟩ = some (.int .i64 a) ∧ w'.cell? ⟨w.heap.size, 1, none⟩ = some (.int .i64 b) ∧ w'.cell? ⟨w.heap.size + 1, 0, none⟩ = some (.int .i64 c) ∧ w'.cell? ⟨w.heap.size + 1, 1, none⟩ = some (.int .i64 d)) (first | (go_keep; done) | ((try dsimp only); refine ⟨?_, ?_, ?_, ?_⟩ <;> first | (simp [*]; done) | ((repeat (first | refine Lib.cell?_alloc_some _ ?_ | (rw [World.cell?_setCell_other _ _ _ _ (by intro e; injection e with e1 e2; omega)]))); simp [*]; done)))
      (first
        | (go_at_call_of 32 (Value.int IntKind.i64 a); refine (Da.out _).mono ?_; rintro e w3 ⟨A3, n3, c3, rfl, s3, b3⟩; (have T' := Lib.hid ((T.out.keep (Gr.drewn _)).below b3)); (have BW' := Lib.hid ((BW.out.trans ((Gr.drewn _).below.mono BW.out.size)).trans (b3.mono BW.out.size))); clear T BW; (have T := T'); (have BW := BW'); clear T' BW'; (obtain ⟨⟨zs1, x1, y1, f1, e1⟩, ⟨zs2, x2, y2, f2, e2⟩⟩ := T.out); (have hn3 : n3 ≤ 400 := s3.le (Nat.le_refl _) La.out); (have S3 := Lib.hid s3); clear s3 b3)
        | (go_at_call_of 32 (Value.int IntKind.i64 d); refine (Dd.out _).mono ?_; rintro e w4 ⟨A4, n4, c4, rfl, s4, b4⟩; (have S3 := Lib.hid (S3.out.keep b4)); (have T' := Lib.hid (T.out.below b4)); (have BW' := Lib.hid (BW.out.trans (b4.mono BW.out.size))); clear T BW; (have T := T'); (have BW := BW'); clear T' BW'; (obtain ⟨⟨zs1, x1, y1, f1, e1⟩, ⟨zs2, x2, y2, f2, e2⟩⟩ := T.out); (have hn4 : n4 ≤ 400 := s4.le (Nat.le_refl _) Ld.out); (have S4 := Lib.hid s4); clear s4 b4; (have HT4 := Lib.hid (times_sl S3.out S4.out hn3 hn4)))
        | (go_at_call_of 39 (Value.slice A3 n3 c3); refine (HT4.out).mono ?_; rintro e w5 ⟨A5, n5, c5, rfl, s5, b5⟩; (have T' := Lib.hid (T.out.below b5)); (have BW' := Lib.hid (BW.out.trans (b5.mono BW.out.size))); clear T BW; (have T := T'); (have BW := BW'); clear T' BW'; (obtain ⟨⟨zs1, x1, y1, f1, e1⟩, ⟨zs2, x2, y2, f2, e2⟩⟩ := T.out); (have hn5 : n5 ≤ 400 := s5.le (Nat.le_refl _) (by rw [HP.out]; exact HLP.out)); (have S5 := Lib.hid s5); clear s5 b5))
        rw [HP.out] at S5
        go_wp2_with fail
        go_region_held3 (fun w' => w'.cell? ⟨w.heap.size, 0, none⟩ = some (.int .i64 a) ∧ w'.cell? ⟨w.heap.size, 1, none⟩ = some (.int .i64 b) ∧ w'.cell? ⟨w.heap.size + 1, 0, none⟩ = some (.int .i64 c) ∧ w'.cell? ⟨w.heap.size + 1, 1, none⟩ = some (.int .i64 d)) (first | (go_keep; done) | ((try dsimp only); refine ⟨?_, ?_, ?_, ?_⟩ <;> first | (simp [*]; done) | ((repeat (first | refine Lib.cell?_alloc_some _ ?_ | (rw [World.cell?_setCell_other _ _ _ _ (by intro e; injection e with e1 e2; omega)]))); simp [*]; done)))
      (first
        | (go_at_call_of 32 (Value.int IntKind.i64 c); refine (Dc.out _).mono ?_; rintro e w6 ⟨A6, n6, c6, rfl, s6, b6⟩; (have S5 := Lib.hid ((S5.out.keep (Gr.drewn _).below).keep b6)); (have T' := Lib.hid ((T.out.keep (Gr.drewn _)).below b6)); (have BW' := Lib.hid ((BW.out.trans ((Gr.drewn _).below.mono BW.out.size)).trans (b6.mono BW.out.size))); clear T BW; (have T := T'); (have BW := BW'); clear T' BW'; (obtain ⟨⟨zs1, x1, y1, f1, e1⟩, ⟨zs2, x2, y2, f2, e2⟩⟩ := T.out); (have hn6 : n6 ≤ 400 := s6.le (Nat.le_refl _) Lc.out); (have S6 := Lib.hid s6); clear s6 b6)
        | (go_at_call_of 32 (Value.int IntKind.i64 b); refine (Db.out _).mono ?_; rintro e w7 ⟨A7, n7, c7, rfl, s7, b7⟩; (have S5 := Lib.hid (S5.out.keep b7)); (have S6 := Lib.hid (S6.out.keep b7)); (have T' := Lib.hid (T.out.below b7)); (have BW' := Lib.hid (BW.out.trans (b7.mono BW.out.size))); clear T BW; (have T := T'); (have BW := BW'); clear T' BW'; (obtain ⟨⟨zs1, x1, y1, f1, e1⟩, ⟨zs2, x2, y2, f2, e2⟩⟩ := T.out); (have hn7 : n7 ≤ 400 := s7.le (Nat.le_refl _) Lb.out); (have S7 := Lib.hid s7); clear s7 b7; (have HT7 := Lib.hid (times_sl S6.out S7.out hn6 hn7)))
        | (go_at_call_of 39 (Value.slice A6 n6 c6); refine (HT7.out).mono ?_; rintro e w8 ⟨A8, n8, c8, rfl, s8, b8⟩; (have S5 := Lib.hid (S5.out.keep b8)); (have T' := Lib.hid (T.out.below b8)); (have BW' := Lib.hid (BW.out.trans (b8.mono BW.out.size))); clear T BW; (have T := T'); (have BW := BW'); clear T' BW'; (obtain ⟨⟨zs1, x1, y1, f1, e1⟩, ⟨zs2, x2, y2, f2, e2⟩⟩ := T.out); (have hn8 : n8 ≤ 400 := s8.le (Nat.le_refl _) (by rw [HQ.out]; exact HLQ.out)); (have S8 := Lib.hid s8); clear s8 b8))
        rw [HQ.out] at S8
        have HL1 := Lib.hid (less_sl S8.out S5.out (by omega))
        rw [HQ1.out] at HL1
        go_wp2_with fail
        refine (HL1.out).mono ?_
        rintro e w9 ⟨rfl, gg9⟩
        have b9 := gg9.below
        (have S5 := Lib.hid (S5.out.keep b9))
        (have S8 := Lib.hid (S8.out.keep b9))
        (have T' := Lib.hid (T.out.below b9))
        (have BW' := Lib.hid (BW.out.trans (b9.mono BW.out.size)))
        clear T BW
        (have T := T')
        (have BW := BW')
        clear T' BW'
        (obtain ⟨⟨zs1, x1, y1, f1, e1⟩, ⟨zs2, x2, y2, f2, e2⟩⟩ := T.out)
        clear b9 gg9
        have HL2 := Lib.hid (less_sl S5.out S8.out (by omega))
        rw [HQ2.out] at HL2
        go_wp2_with fail
        refine (HL2.out).mono ?_
        rintro e w10 ⟨rfl, gg10⟩
        have b10 := gg10.below
        (have S5 := Lib.hid (S5.out.keep b10))
        (have S8 := Lib.hid (S8.out.keep b10))
        (have T' := Lib.hid (T.out.below b10))
        (have BW' := Lib.hid (BW.out.trans (b10.mono BW.out.size)))
        clear T BW
        (have T := T')
        (have BW := BW')
        clear T' BW'
        (obtain ⟨⟨zs1, x1, y1, f1, e1⟩, ⟨zs2, x2, y2, f2, e2⟩⟩ := T.out)
        clear b10 gg10
        go_wp2_with fail
        go_ret2
        exact ⟨by rw [HC'.out, HF.out]; rfl, BW.out⟩
theorem rcmp_at {a b c d C : Int} (w : World) (hv : vld a b = true) (hv' : vld c d = true) (hC : cmp a b c d = C) :
    Calls Tryd.prog 19 #[.agg #[.int .i64 a, .int .i64 b], .agg #[.int .i64 c, .int .i64 d]] w fun e w' => e = .returned (.tuple #[.int .i64 C, .int .i64 0]) ∧ Below w.heap.size w w' := by
  by_cases h : decide (a < 0) = decide (c < 0)
  · exact rcmp_same a b c d C _ w hv hv' h rfl hC
  · exact rcmp_diff a b c d C _ _ w hv hv' rfl rfl h hC
end Go.Proofs.YtdmddfhjfkdlnaaDoor
