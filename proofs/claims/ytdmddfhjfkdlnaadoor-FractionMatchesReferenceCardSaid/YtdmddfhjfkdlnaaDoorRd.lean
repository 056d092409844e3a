/- The contract of the reference's minus. Under no condition. -/
import Derived.Test.YtdmddfhjfkdlnaaDoorRc
namespace Go.Proofs.YtdmddfhjfkdlnaaDoor
open Go.RowKit

/-- one step of a difference: what is left is the difference of the rests -/
theorem minus_next {x y i k k' dg p q : Nat} {acc : List Nat} (h : (val acc : Int) + 2 ^ i * ((x / 2 ^ i : Nat) - (y / 2 ^ i : Nat) - (k : Int)) = (x : Int) - y) (hl : acc.length = i) (hp : p = x / 2 ^ i % 2) (hq : q = y / 2 ^ i % 2) (hd : (p : Int) - k - q + 2 * k' = dg) :
    (val (acc ++ [dg]) : Int) + 2 ^ (i + 1) * ((x / 2 ^ (i + 1) : Nat) - (y / 2 ^ (i + 1) : Nat) - (k' : Int)) = (x : Int) - y := by
  rw [val_snoc, hl, sh_succ, sh_succ, ← h]
  have e1 : ((x / 2 ^ i : Nat) : Int) = 2 * ((x / 2 ^ i / 2 : Nat) : Int) + p := by omega
  have e2 : ((y / 2 ^ i : Nat) : Int) = 2 * ((y / 2 ^ i / 2 : Nat) : Int) + q := by omega
  generalize ((x / 2 ^ i / 2 : Nat) : Int) = u at *
  generalize ((y / 2 ^ i / 2 : Nat) : Int) = v at *
  rw [e1, e2, Int.natCast_add, Int.natCast_mul, Int.natCast_pow, ← hd, Int.pow_succ]
  generalize ((2 : Nat) : Int) ^ i = t
  grind
/-- the end of a difference -/
theorem minus_end {x y i k : Nat} {acc : List Nat} (h : (val acc : Int) + 2 ^ i * ((x / 2 ^ i : Nat) - (y / 2 ^ i : Nat) - (k : Int)) = (x : Int) - y) (hl : acc.length = i) (hd : Dg acc) (hx : x / 2 ^ i = 0) (hyx : y ≤ x) : trm acc = bin (x - y) := by
  have hv := val_lt acc hd
  rw [hl] at hv
  rw [hx] at h
  have hz : ((y / 2 ^ i : Nat) : Int) + k = 0 := by
    have hp : (0 : Int) < 2 ^ i := by have := Nat.two_pow_pos i; have e : ((2 ^ i : Nat) : Int) = 2 ^ i := by rw [Int.natCast_pow]; rfl
                                      omega
    have hv' : (val acc : Int) < 2 ^ i := by have e : ((2 ^ i : Nat) : Int) = 2 ^ i := by rw [Int.natCast_pow]; rfl
                                             omega
    have hu : (0 : Int) ≤ ((y / 2 ^ i : Nat) : Int) := Int.natCast_nonneg _
    generalize ((y / 2 ^ i : Nat) : Int) = u at *
    rcases Int.lt_or_le 0 (u + k) with c | c
    · exfalso
      have m : 2 ^ i * 1 ≤ 2 ^ i * (u + k) := Int.mul_le_mul_of_nonneg_left (by omega) (by omega)
      have e : (2 : Int) ^ i * (((0 : Nat) : Int) - u - k) = -(2 ^ i * (u + k)) := by grind
      omega
    · omega
  have : (val acc : Int) = x - y := by
    rw [show (((0 : Nat) : Int) - ((y / 2 ^ i : Nat) : Int) - (k : Int)) = 0 by omega] at h
    omega
  unfold trm
  congr 1; omega

set_option maxHeartbeats 8000000 in
theorem minus_any' (A B : Option Addr) (c c' : Nat) (x y : Nat) (w : World) (hyx : y ≤ x) (hr : RdN w A (bin x)) (hr' : RdN w B (bin y)) (hl : (bin x).length ≤ 1000) :
    Calls Tryd.prog 42 #[.slice A (bin x).length c, .slice B (bin y).length c'] w (DPost (bin (x - y)) w) := by
  obtain ⟨i0, hi, hz0, hz1, hz2⟩ := info_parts info3
  have HR := Lib.hid (fun (i : Nat) (h : i < (bin x).length) => hr.digit h)
  have HR' := Lib.hid (fun (i : Nat) (h : i < (bin y).length) => hr'.digit h)
  have HX := Lib.hid (bin_lt x)
  have HY := Lib.hid (bin_lt y)
  clear hr hr'
  generalize (bin x).length = lx at *
  generalize (bin y).length = ly at *
  go_enter Tryd.func42, Tryd.ntmps42
  go_wp2_with fail
  go_loopw [5, 6, 7, 8] (fun v cr t _d wr => ∃ (i k : Nat) (acc : List Nat), i ≤ lx ∧ k ≤ 1 ∧ t = .int .i64 i ∧ cr = .int .i64 k ∧ Hid (acc.length = i) ∧ Hid (Dg acc) ∧ Hid ((val acc : Int) + 2 ^ i * ((x / 2 ^ i : Nat) - (y / 2 ^ i : Nat) - (k : Int)) = (x : Int) - y) ∧ Hid (OwnN w acc v wr)) (fun _ _ t _ _ => 2003 - (intOf t).toNat)
  case atStart => exact ⟨0, 0, [], by omega, by omega, rfl, rfl, Lib.hid rfl, Lib.hid (fun d hd => by cases hd), Lib.hid (by simp [val]), Lib.hid (OwnN.none w)⟩
  case round =>
    obtain ⟨i, k, acc, hi1, hk1, rfl, rfl, HA, HDG, HE, HO⟩ := hrel
    by_cases cx : i < lx
    · obtain ⟨b, off, rfl, hlt, hcell⟩ := HR.out i cx
      replace hcell := cell_later HO.out.2 hcell
      obtain ⟨p, hp⟩ : ∃ p, p = x / 2 ^ i % 2 := ⟨_, rfl⟩
      rw [← hp] at hcell
      have hp1 : p ≤ 1 := by omega
      have HPP := Lib.hid hp
      clear hp
      by_cases cy : i < ly
      · obtain ⟨b', off', rfl, hlt', hcell'⟩ := HR'.out i cy
        replace hcell' := cell_later HO.out.2 hcell'
        obtain ⟨q, hq⟩ : ∃ q, q = y / 2 ^ i % 2 := ⟨_, rfl⟩
        rw [← hq] at hcell'
        have hq1 : q ≤ 1 := by omega
        have HQQ := Lib.hid hq
        clear hq
        by_cases cn : (p : Int) - k - q < 0
        · have d1 : decide ((p : Int) - (k : Int) - (q : Int) < 0) = true := decide_eq_true (by omega)
          obtain ⟨dg, hdg⟩ : ∃ dg : Nat, (p : Int) - (k : Int) - (q : Int) + 2 = (dg : Int) := ⟨((p : Int) - (k : Int) - (q : Int) + 2).toNat, by omega⟩
          have hdg1 : dg ≤ 1 := by omega
          have HS := Lib.hid (minus_next (k' := 1) (dg := dg) (p := p) (q := q) HE.out HA.out HPP.out HQQ.out (by omega))
          clear HPP HQQ HR HR' HX HY
          go_wp2_with (at_builtin; refine wpList_append_own _ rfl _ _ 45 rfl w.heap.size 3 i0 _ 1 8 Tryd.underlying45 hi hz0 hz1 hz2 rfl (by decide) _ acc.length (encN acc) rfl (HO.out.1.alloc _) ⟨wr.heap.size, 0, none⟩ 1 1 [.int .i64 (dg : Int)] rfl rfl (one_new _ _ _) (by intro u hu; simp at hu; subst hu; rfl) (by unfold maxLen; have := HA.out; omega) (by have := HA.out; omega) (by have := HO.out.2.size; simp; omega) ?_; intro v' w5 hown' hgrow' _)
          have HO' := Lib.hid (HO.out.more hown' hgrow')
          clear hown' hgrow'
          go_wp2_with fail
          go_roundw
          case rel => exact ⟨i + 1, 1, acc ++ [dg], by omega, by omega, by go_num, rfl, Lib.hid (by rw [List.length_append, HA.out]; rfl), Lib.hid (HDG.out.snoc hdg1), HS, HO'⟩
          case measure => simp [intOf]; omega
        · have d1 : decide ((p : Int) - (k : Int) - (q : Int) < 0) = false := decide_eq_false (by omega)
          obtain ⟨dg, hdg⟩ : ∃ dg : Nat, (p : Int) - (k : Int) - (q : Int) = (dg : Int) := ⟨((p : Int) - (k : Int) - (q : Int)).toNat, by omega⟩
          have hdg1 : dg ≤ 1 := by omega
          have d2 : decide ((dg : Int) < 0) = false := decide_eq_false (by omega)
          have HS := Lib.hid (minus_next (k' := 0) (dg := dg) (p := p) (q := q) HE.out HA.out HPP.out HQQ.out (by omega))
          clear HPP HQQ HR HR' HX HY
          go_wp2_with (at_builtin; refine wpList_append_own _ rfl _ _ 45 rfl w.heap.size 3 i0 _ 1 8 Tryd.underlying45 hi hz0 hz1 hz2 rfl (by decide) _ acc.length (encN acc) rfl (HO.out.1.alloc _) ⟨wr.heap.size, 0, none⟩ 1 1 [.int .i64 (dg : Int)] rfl rfl (one_new _ _ _) (by intro u hu; simp at hu; subst hu; rfl) (by unfold maxLen; have := HA.out; omega) (by have := HA.out; omega) (by have := HO.out.2.size; simp; omega) ?_; intro v' w5 hown' hgrow' _)
          have HO' := Lib.hid (HO.out.more hown' hgrow')
          clear hown' hgrow'
          go_wp2_with fail
          go_roundw
          case rel => exact ⟨i + 1, 0, acc ++ [dg], by omega, by omega, by go_num, rfl, Lib.hid (by rw [List.length_append, HA.out]; rfl), Lib.hid (HDG.out.snoc hdg1), HS, HO'⟩
          case measure => simp [intOf]; omega
      · have dy : decide (i < ly) = false := decide_eq_false cy
        have HQQ : Hid (0 = y / 2 ^ i % 2) := Lib.hid (by rw [Nat.eq_zero_of_not_ne (fun e => cy ((HY.out i).2 e))])
        by_cases cn : (p : Int) - k < 0
        · have d1 : decide ((p : Int) - (k : Int) < 0) = true := decide_eq_true (by omega)
          obtain ⟨dg, hdg⟩ : ∃ dg : Nat, (p : Int) - (k : Int) + 2 = (dg : Int) := ⟨((p : Int) - (k : Int) + 2).toNat, by omega⟩
          have hdg1 : dg ≤ 1 := by omega
          have HS := Lib.hid (minus_next (k' := 1) (dg := dg) (p := p) (q := 0) HE.out HA.out HPP.out HQQ.out (by omega))
          clear HPP HQQ HR HR' HX HY
          go_wp2_with (at_builtin; refine wpList_append_own _ rfl _ _ 45 rfl w.heap.size 3 i0 _ 1 8 Tryd.underlying45 hi hz0 hz1 hz2 rfl (by decide) _ acc.length (encN acc) rfl (HO.out.1.alloc _) ⟨wr.heap.size, 0, none⟩ 1 1 [.int .i64 (dg : Int)] rfl rfl (one_new _ _ _) (by intro u hu; simp at hu; subst hu; rfl) (by unfold maxLen; have := HA.out; omega) (by have := HA.out; omega) (by have := HO.out.2.size; simp; omega) ?_; intro v' w5 hown' hgrow' _)
          have HO' := Lib.hid (HO.out.more hown' hgrow')
          clear hown' hgrow'
          go_wp2_with fail
          go_roundw
          case rel => exact ⟨i + 1, 1, acc ++ [dg], by omega, by omega, by go_num, rfl, Lib.hid (by rw [List.length_append, HA.out]; rfl), Lib.hid (HDG.out.snoc hdg1), HS, HO'⟩
          case measure => simp [intOf]; omega
        · have d1 : decide ((p : Int) - (k : Int) < 0) = false := decide_eq_false (by omega)
          obtain ⟨dg, hdg⟩ : ∃ dg : Nat, (p : Int) - (k : Int) = (dg : Int) := ⟨((p : Int) - (k : Int)).toNat, by omega⟩
          have hdg1 : dg ≤ 1 := by omega
          have d2 : decide ((dg : Int) < 0) = false := decide_eq_false (by omega)
          have HS := Lib.hid (minus_next (k' := 0) (dg := dg) (p := p) (q := 0) HE.out HA.out HPP.out HQQ.out (by omega))
          clear HPP HQQ HR HR' HX HY
          go_wp2_with (at_builtin; refine wpList_append_own _ rfl _ _ 45 rfl w.heap.size 3 i0 _ 1 8 Tryd.underlying45 hi hz0 hz1 hz2 rfl (by decide) _ acc.length (encN acc) rfl (HO.out.1.alloc _) ⟨wr.heap.size, 0, none⟩ 1 1 [.int .i64 (dg : Int)] rfl rfl (one_new _ _ _) (by intro u hu; simp at hu; subst hu; rfl) (by unfold maxLen; have := HA.out; omega) (by have := HA.out; omega) (by have := HO.out.2.size; simp; omega) ?_; intro v' w5 hown' hgrow' _)
          have HO' := Lib.hid (HO.out.more hown' hgrow')
          clear hown' hgrow'
          go_wp2_with fail
          go_roundw
          case rel => exact ⟨i + 1, 0, acc ++ [dg], by omega, by omega, by go_num, rfl, Lib.hid (by rw [List.length_append, HA.out]; rfl), Lib.hid (HDG.out.snoc hdg1), HS, HO'⟩
          case measure => simp [intOf]; omega
    · have zx := Nat.eq_zero_of_not_ne (fun e => cx ((HX.out i).2 e))
      have HF := Lib.hid (minus_end HE.out HA.out HDG.out zx hyx)
      have dx : decide (i < lx) = false := decide_eq_false cx
      have hal : acc.length ≤ 1000 := by have := HA.out; omega
      clear zx HX HY HR HR'
      obtain ⟨A', c'', rfl, hc, hrd⟩ := HO.out.rd
      have HT := Lib.hid (trim_any A' c'' acc wr HDG.out hrd hal hc.1)
      have HB := Lib.hid HO.out.2
      rw [HF.out] at HT
      have HCC := Lib.hid (show (bin (x - y)).length ≤ c'' ∧ (A' = none → c'' = 0) ∧ ∀ b off, A' = some ⟨b, off, none⟩ → w.heap.size ≤ b from ⟨by rw [← HF.out]; exact Nat.le_trans (trm_len _ HDG.out) hc.1, hc.2⟩)
      clear hrd hc
      go_wp2_with fail
      refine HT.out.mono ?_
      rintro e w2 ⟨rfl, g2, rfl⟩
      have HG := Lib.hid g2
      clear g2
      go_wp2_with fail
      go_ret
      exact ⟨A', c'', rfl, HCC.out, HG.out, HB.out⟩
end Go.Proofs.YtdmddfhjfkdlnaaDoor
