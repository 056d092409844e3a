/- The contracts of the reference's lowest and Valid. Under no condition but the types' own ranges. -/
import Derived.Test.YtdmddfhjfkdlnaaDoorRh
namespace Go.Proofs.YtdmddfhjfkdlnaaDoor
open Go.RowKit

theorem digits_sl (n : Int) (w : World) (h0 : -9223372036854775808 ≤ n) (h1 : n ≤ 9223372036854775807) : Calls Tryd.prog 32 #[.int .i64 n] w (GPost n.natAbs w) :=
  (digits_any n w h0 h1).mono fun _ _ h => h.sl
theorem times_sl {w : World} {A B : Option Addr} {n m c c' x y : Nat} (h : Sl w A n c x) (h' : Sl w B m c' y) (hl : n ≤ 400) (hl' : m ≤ 400) :
    Calls Tryd.prog 39 #[.slice A n c, .slice B m c'] w (GPost (x * y) w) := by
  have k := times_any' A B c c' x y w h.2.2 h'.2.2 (by rw [← h.1]; exact hl) (by rw [← h'.1]; exact hl')
  rw [← h.1, ← h'.1] at k
  exact k.mono fun e w' q => q.sl
theorem over_sl {w : World} {A B : Option Addr} {n m c c' x y : Nat} (h : Sl w A n c x) (h' : Sl w B m c' y) (hl : n ≤ 400) (hl' : m ≤ 400) (hy : 0 < y) :
    Calls Tryd.prog 51 #[.slice A n c, .slice B m c'] w (GPost (x / y) w) := by
  have k := over_any' A B c c' x y w hy h.2.2 h'.2.2 (by rw [← h.1]; exact hl) (by rw [← h'.1]; exact hl')
  rw [← h.1, ← h'.1] at k
  exact k.mono fun e w' q => q.sl
theorem value_sl {w : World} {A : Option Addr} {n c x : Nat} (h : Sl w A n c x) (hl : n ≤ 400) :
    Calls Tryd.prog 50 #[.slice A n c] w fun e w' => e = .returned (.tuple #[.int .i64 (vlN x), .bool (vlB x)]) ∧ Below w.heap.size w w' := by
  have k := value_any A c x w h.2.2 (by rw [← h.1]; omega)
  rw [← h.1] at k
  exact k
theorem Sl.le {w : World} {A : Option Addr} {n c x y l : Nat} (h : Sl w A n c x) (hxy : x ≤ y) (hy : (bin y).length ≤ l) : n ≤ l := by
  have := bin_len_le hxy; have := h.1; omega

set_option maxRecDepth 100000 in
set_option maxHeartbeats 4000000 in
theorem low_core (neg p q : Bool) (A B : Option Addr) (n m c c' x y : Nat) (a b RN RD RE : Int) (w : World) (hr : Sl w A n c x) (hr' : Sl w B m c' y) (hy : 0 < y) (hl : n ≤ 400) (hl' : m ≤ 400)
    (va : vlN (x / Nat.gcd x y) = a) (vp : vlB (x / Nat.gcd x y) = p) (vb : vlN (y / Nat.gcd x y) = b) (vq : vlB (y / Nat.gcd x y) = q) (ha : 0 ≤ a) (ha' : a ≤ 4611686018427387904)
    (hc : (p = false ∧ RN = 0 ∧ RD = 0 ∧ RE = 9) ∨ (p = true ∧ q = false ∧ RN = 0 ∧ RD = 0 ∧ RE = 9) ∨ (p = true ∧ q = true ∧ neg = false ∧ RN = a ∧ RD = b ∧ RE = 0) ∨ (p = true ∧ q = true ∧ neg = true ∧ RN = -a ∧ RD = b ∧ RE = 0)) :
    Calls Tryd.prog 31 #[.bool neg, .slice A n c, .slice B m c'] w fun e w' => e = .returned (.tuple #[.agg #[.int .i64 RN, .int .i64 RD], .int .i64 RE]) ∧ Below w.heap.size w w' := by
  have hg : 0 < Nat.gcd x y := Nat.gcd_pos_of_pos_right _ hy
  have HGL := Lib.hid (show (bin (Nat.gcd x y)).length ≤ 400 by have := bin_len_le (Nat.le_of_dvd hy (Nat.gcd_dvd_right x y)); have := hr'.1; omega)
  have HXL := Lib.hid (show (bin (x / Nat.gcd x y)).length ≤ 400 by have := bin_len_le (Nat.div_le_self x (Nat.gcd x y)); have := hr.1; omega)
  have HYL := Lib.hid (show (bin (y / Nat.gcd x y)).length ≤ 400 by have := bin_len_le (Nat.div_le_self y (Nat.gcd x y)); have := hr'.1; omega)
  have HD := Lib.hid (fun (W : World) (h1 : Sl W A n c x) (h2 : Sl W B m c' y) => divr_any A B n m c c' x y W h1 h2 hl hl')
  have HVA := Lib.hid va
  have HVP := Lib.hid vp
  have HVB := Lib.hid vb
  have HVQ := Lib.hid vq
  have HR := Lib.hid hr
  have HR' := Lib.hid hr'
  clear va vp vb vq hr hr'
  generalize Nat.gcd x y = g at *
  rcases hc with ⟨rfl, rfl, rfl, rfl⟩ | ⟨rfl, rfl, rfl, rfl, rfl⟩ | ⟨rfl, rfl, rfl, rfl, rfl, rfl⟩ | ⟨rfl, rfl, rfl, rfl, rfl, rfl⟩
  all_goals
    go_enter Tryd.func31, Tryd.ntmps31
    go_wp2_with fail
    have R0 := Lib.hid (Blk.made w (.int .i64 0) (.int .i64 0) 23)
    have GW := Lib.hid (Gr.one w (.cells #[.int .i64 0, .int .i64 0] 23)).below
    generalize w.alloc (.cells #[.int .i64 0, .int .i64 0] 23) = W at *
    have HD0 := Lib.hid (HD.out W (HR.out.keep GW.out) (HR'.out.keep GW.out))
    refine HD0.out.mono ?_
    rintro e w1 ⟨A1, n1, c1, rfl, s1, b1⟩
    have GW1 := Lib.hid (GW.out.trans (b1.mono GW.out.size))
    have R1 := Lib.hid (R0.out.below b1)
    have hn1 : n1 ≤ 400 := s1.le (Nat.le_refl _) HGL.out
    have HO1 := Lib.hid (over_sl (HR.out.keep GW1.out) s1 hl hn1 hg)
    have S1 := Lib.hid s1
    clear s1 b1 HD0
    go_wp2_with fail
    refine HO1.out.mono ?_
    rintro e w2 ⟨A2, n2, c2, rfl, s2, b2⟩
    have GW2 := Lib.hid (GW1.out.trans (b2.mono GW1.out.size))
    have R2 := Lib.hid (R1.out.below b2)
    have hn2 : n2 ≤ 400 := s2.le (Nat.le_refl _) HXL.out
    have HV1 := Lib.hid (value_sl s2 hn2)
    have S12 := Lib.hid (S1.out.keep b2)
    rw [HVA.out, HVP.out] at HV1
    clear s2 b2 HO1
    go_wp2_with fail
    refine HV1.out.mono ?_
    rintro e w3 ⟨rfl, b3⟩
    have GW3 := Lib.hid (GW2.out.trans (b3.mono GW2.out.size))
    have R3 := Lib.hid (R2.out.below b3)
    have S13 := Lib.hid (S12.out.keep b3)
    have HO2 := Lib.hid (over_sl (HR'.out.keep GW3.out) S13.out hl' hn1 hg)
    clear b3 HV1
    go_wp2_with fail
    refine HO2.out.mono ?_
    rintro e w4 ⟨A4, n4, c4, rfl, s4, b4⟩
    have GW4 := Lib.hid (GW3.out.trans (b4.mono GW3.out.size))
    have R4 := Lib.hid (R3.out.below b4)
    have hn4 : n4 ≤ 400 := s4.le (Nat.le_refl _) HYL.out
    have HV2 := Lib.hid (value_sl s4 hn4)
    rw [HVB.out, HVQ.out] at HV2
    clear s4 b4 HO2
    go_wp2_with fail
    refine HV2.out.mono ?_
    rintro e w5 ⟨rfl, b5⟩
    have GW5 := Lib.hid (GW4.out.trans (b5.mono GW4.out.size))
    obtain ⟨s1, x1, y1, f1, e1⟩ := R4.out.below b5
    clear b5 HV2 R0 R1 R2 R3 R4
    go_wp2_with fail
    refine bodyPost_ret (v := .tuple #[.agg #[.int .i64 _, .int .i64 _], .int .i64 _]) (by simp [results, Tryd.results31, go_sem, *]) rfl ⟨rfl, ?_⟩
    exact (GW5.out.setCell (Nat.le_refl _) _).setCell (Nat.le_refl _) _

/-- what lowest returns, as the answer for a number -/
theorem lw_eq (neg : Bool) (x y : Nat) (hy : 0 < y) (r : Rat) (hr : r = Rat.divInt (if neg then -(x : Int) else x) y) :
    mdN neg (x / Nat.gcd x y) (y / Nat.gcd x y) = rN r ∧ mdD (x / Nat.gcd x y) (y / Nat.gcd x y) = rD r ∧ mdE (x / Nat.gcd x y) (y / Nat.gcd x y) = rE r := by
  obtain ⟨t1, t2⟩ := of_terms (if neg then -(x : Int) else x) y (by omega)
  rw [← hr] at t1 t2
  have e1 : (if neg then -(x : Int) else x).natAbs = x := by cases neg <;> simp
  have e2 : (y : Int).natAbs = y := rfl
  rw [e1, e2] at t1 t2
  refine md_eq ?_ t2
  rw [t1]
  have d0 : decide ((y : Int) < 0) = false := decide_eq_false (by omega)
  rw [d0]
  rcases Nat.eq_zero_or_pos x with h | h
  · subst h
    cases neg <;> simp
  · cases neg
    · have : decide (((if (false : Bool) = true then -(x : Int) else x)) < 0) = false := decide_eq_false (by simp)
      rw [this]; rfl
    · have : decide (((if (true : Bool) = true then -(x : Int) else x)) < 0) = true := decide_eq_true (by simp; omega)
      rw [this]; rfl
theorem lowest_at {neg : Bool} {A B : Option Addr} {n m c c' x y : Nat} {w : World} (hr : Sl w A n c x) (hr' : Sl w B m c' y) (hy : 0 < y) (hl : n ≤ 400) (hl' : m ≤ 400) {r : Rat} (h : r = Rat.divInt (if neg then -(x : Int) else x) y) :
    Calls Tryd.prog 31 #[.bool neg, .slice A n c, .slice B m c'] w fun e w' => e = .returned (fr r) ∧ Below w.heap.size w w' := by
  obtain ⟨h1, h2, h3⟩ := lw_eq neg x y hy r h
  unfold fr
  rw [← h1, ← h2, ← h3]
  generalize hX : x / Nat.gcd x y = X at *
  generalize hY : y / Nat.gcd x y = Y at *
  have k1 : 0 ≤ vlN X ∧ vlN X ≤ 4611686018427387904 := by unfold vlN; split <;> omega
  refine low_core neg (vlB X) (vlB Y) A B n m c c' x y (vlN X) (vlN Y) _ _ _ w hr hr' hy hl hl' (by rw [hX]) (by rw [hX]) (by rw [hY]) (by rw [hY]) k1.1 k1.2 ?_
  unfold vlN vlB mdN mdD mdE
  by_cases c1 : X ≤ 4611686018427387904
  · by_cases c2 : Y ≤ 4611686018427387904
    · right; right
      cases neg <;> simp [c1, c2]
    · right; left; simp [c1, c2]
  · left; simp [c1]

theorem len_one {g : Nat} (hg : 0 < g) : (bin g).length = 1 ↔ g = 1 := by
  constructor
  · intro h
    have := val_lt (bin g) (bin_dg g)
    rw [val_bin, h] at this
    omega
  · rintro rfl; decide +kernel
set_option maxRecDepth 100000 in
set_option maxHeartbeats 4000000 in
theorem rvalid_any (n d : Int) (w : World) (h0 : -9223372036854775808 ≤ n) (h1 : n ≤ 9223372036854775807) (k0 : -9223372036854775808 ≤ d) (k1 : d ≤ 9223372036854775807) :
    Calls Tryd.prog 17 #[.agg #[.int .i64 n, .int .i64 d]] w fun e w' => e = .returned (.bool (vld n d)) ∧ Below w.heap.size w w' := by
  by_cases c1 : d < 1
  · have H := Lib.hid (show vld n d = false by rw [← Bool.not_eq_true, vld_iff]; omega)
    have hb : decide (d < 1) = true := decide_eq_true (by omega)
    go_enter Tryd.func17, Tryd.ntmps17
    go_wp2_with fail
    go_ret
    exact ⟨by rw [H.out]; rfl, (Gr.one _ _).below⟩
  by_cases c2 : 4611686018427387904 < d
  · have H := Lib.hid (show vld n d = false by rw [← Bool.not_eq_true, vld_iff]; omega)
    have hb : decide (d < 1) = false := decide_eq_false (by omega)
    have hb2 : decide (4611686018427387904 < d) = true := decide_eq_true (by omega)
    go_enter Tryd.func17, Tryd.ntmps17
    go_wp2_with fail
    go_ret
    exact ⟨by rw [H.out]; rfl, (Gr.one _ _).below⟩
  by_cases c3 : n < -4611686018427387904
  · have H := Lib.hid (show vld n d = false by rw [← Bool.not_eq_true, vld_iff]; omega)
    have hb : decide (d < 1) = false := decide_eq_false (by omega)
    have hb2 : decide (4611686018427387904 < d) = false := decide_eq_false (by omega)
    have hb3 : decide (n < -4611686018427387904) = true := decide_eq_true (by omega)
    go_enter Tryd.func17, Tryd.ntmps17
    go_wp2_with fail
    go_ret
    exact ⟨by rw [H.out]; rfl, (Gr.one _ _).below⟩
  by_cases c4 : 4611686018427387904 < n
  · have H := Lib.hid (show vld n d = false by rw [← Bool.not_eq_true, vld_iff]; omega)
    have hb : decide (d < 1) = false := decide_eq_false (by omega)
    have hb2 : decide (4611686018427387904 < d) = false := decide_eq_false (by omega)
    have hb3 : decide (n < -4611686018427387904) = false := decide_eq_false (by omega)
    have hb4 : decide (4611686018427387904 < n) = true := decide_eq_true (by omega)
    go_enter Tryd.func17, Tryd.ntmps17
    go_wp2_with fail
    go_ret
    exact ⟨by rw [H.out]; rfl, (Gr.one _ _).below⟩
  have hb : decide (d < 1) = false := decide_eq_false (by omega)
  have hb2 : decide (4611686018427387904 < d) = false := decide_eq_false (by omega)
  have hb3 : decide (n < -4611686018427387904) = false := decide_eq_false (by omega)
  have hb4 : decide (4611686018427387904 < n) = false := decide_eq_false (by omega)
  have hgp : 0 < Nat.gcd n.natAbs d.natAbs := Nat.gcd_pos_of_pos_right _ (by omega)
  have H := Lib.hid (show ∀ k : Nat, k = (bin (Nat.gcd n.natAbs d.natAbs)).length → vld n d = ((k : Int) == 1) by
    intro k hk
    have := len_one hgp
    rw [← hk] at this
    rw [Bool.eq_iff_iff, vld_iff]; simp only [beq_iff_eq]; omega)
  have D1 := Lib.hid (fun W => digits_sl n W h0 h1)
  have D2 := Lib.hid (fun W => digits_sl d W k0 k1)
  have L1 := Lib.hid (bin_len n.natAbs 64 (by omega))
  have L2 := Lib.hid (bin_len d.natAbs 64 (by omega))
  clear c1 c2 c3 c4 hgp
  go_enter Tryd.func17, Tryd.ntmps17
  go_wp2_with fail
  have R0 := Lib.hid (Blk.made w (.int .i64 n) (.int .i64 d) 23)
  have GW := Lib.hid (Gr.one w (.cells #[.int .i64 n, .int .i64 d] 23)).below
  generalize w.alloc (.cells #[.int .i64 n, .int .i64 d] 23) = W at *
  obtain ⟨r2s, r20, r21, f20, f21⟩ := R0.out
  go_region_held3 (fun w' => w'.cell? ⟨w.heap.size, 0, none⟩ = some (.int .i64 n) ∧ w'.cell? ⟨w.heap.size, 1, none⟩ = some (.int .i64 d)) (first | (go_keep; done) | ((try dsimp only); refine ⟨?_, ?_⟩ <;> (simp [*]; done))) (first | (go_at_call_of 32 (Value.int IntKind.i64 n); refine (D1.out _).mono ?_; rintro e w1 ⟨A1, n1, c1, rfl, s1, b1⟩; (obtain ⟨r2s, r20, r21, f20, f21⟩ := (R0.out.keep (Gr.drewn _)).below b1); (have GW1 := Lib.hid ((GW.out.trans ((Gr.drewn _).below.mono GW.out.size)).trans (b1.mono GW.out.size))); (have S1 := Lib.hid s1); (have hn1 : n1 ≤ 400 := by have := s1.1; have := L1.out; omega); (have R1 := Lib.hid ((R0.out.keep (Gr.drewn _)).below b1)); clear s1 b1) | (go_at_call_of 32 (Value.int IntKind.i64 d); refine (D2.out _).mono ?_; rintro e w2 ⟨A2, n2, c2, rfl, s2, b2⟩; (obtain ⟨r2s, r20, r21, f20, f21⟩ := R1.out.below b2); (have GW2 := Lib.hid (GW1.out.trans (b2.mono GW1.out.size))); (have hn2 : n2 ≤ 400 := by have := s2.1; have := L2.out; omega); (have HDV := Lib.hid (divr_any A1 A2 n1 n2 c1 c2 n.natAbs d.natAbs w2 (S1.out.keep b2) s2 hn1 hn2)); (have R2 := Lib.hid (R1.out.below b2)); clear s2 b2) | (go_at_call 43; refine HDV.out.mono ?_; rintro e w3 ⟨A3, n3, c3, rfl, s3, b3⟩; (obtain ⟨r2s, r20, r21, f20, f21⟩ := R2.out.below b3); (have GW3 := Lib.hid (GW2.out.trans (b3.mono GW2.out.size))); (have HF := Lib.hid (H.out n3 s3.1)); clear s3 b3))
  go_wp2_with fail
  go_ret
  exact ⟨by rw [HF.out]; rfl, GW3.out⟩
end Go.Proofs.YtdmddfhjfkdlnaaDoor
