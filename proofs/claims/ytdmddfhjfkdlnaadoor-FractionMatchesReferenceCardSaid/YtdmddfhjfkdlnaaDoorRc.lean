/- The contract of the reference's plus. Under no condition. -/
import Derived.Test.YtdmddfhjfkdlnaaDoorRb
import Derived.Test.YtdmddfhjfkdlnaaDoorPy
namespace Go.Proofs.YtdmddfhjfkdlnaaDoor
open Go.RowKit

/-- a digit of a number in memory -/
theorem RdN.digit {w : World} {A : Option Addr} {x i : Nat} (h : RdN w A (bin x)) (hi : i < (bin x).length) : ∃ b off, A = some ⟨b, off, none⟩ ∧ b < w.heap.size ∧ w.cell? ⟨b, off + i, none⟩ = some (.int .i64 ((x / 2 ^ i % 2 : Nat) : Int)) := by
  rcases h with h | ⟨b, off, rfl, hlt, hc⟩
  · rw [h] at hi; simp at hi
  · exact ⟨b, off, rfl, hlt, by rw [hc i hi, bin_get x i hi]⟩
theorem Nat.eq_zero_of_not_ne {n : Nat} (h : ¬ n ≠ 0) : n = 0 := by omega
/-- one step of a sum -/
theorem plus_next {x y i k k' dg p q : Nat} {l acc : List Nat} (h : l = acc ++ bin (k + x / 2 ^ i + y / 2 ^ i)) (hne : x / 2 ^ i ≠ 0 ∨ y / 2 ^ i ≠ 0 ∨ k ≠ 0) (hp : p = x / 2 ^ i % 2 ∨ (x / 2 ^ i = 0 ∧ p = 0)) (hq : q = y / 2 ^ i % 2 ∨ (y / 2 ^ i = 0 ∧ q = 0)) (hk : k' = (k + p + q) / 2) (hd : dg = (k + p + q) % 2) :
    l = (acc ++ [dg]) ++ bin (k' + x / 2 ^ (i + 1) + y / 2 ^ (i + 1)) := by
  rw [h, plus_step _ _ _ (by generalize x / 2 ^ i = u at *; generalize y / 2 ^ i = v at *; omega), sh_succ, sh_succ]
  have e1 : p = x / 2 ^ i % 2 := by generalize x / 2 ^ i = u at *; omega
  have e2 : q = y / 2 ^ i % 2 := by generalize y / 2 ^ i = v at *; omega
  rw [hk, hd, e1, e2]; simp

set_option maxHeartbeats 8000000 in
theorem plus_any' (A B : Option Addr) (c c' : Nat) (x y : Nat) (w : World) (hr : RdN w A (bin x)) (hr' : RdN w B (bin y)) (hl : (bin x).length ≤ 1000) (hl' : (bin y).length ≤ 1000) :
    Calls Tryd.prog 40 #[.slice A (bin x).length c, .slice B (bin y).length c'] w (DPost (bin (x + y)) w) := by
  obtain ⟨i0, hi, hz0, hz1, hz2⟩ := info_parts info3
  have HR := Lib.hid (fun (i : Nat) (h : i < (bin x).length) => hr.digit h)
  have HR' := Lib.hid (fun (i : Nat) (h : i < (bin y).length) => hr'.digit h)
  have HX := Lib.hid (bin_lt x)
  have HY := Lib.hid (bin_lt y)
  clear hr hr'
  generalize (bin x).length = lx at *
  generalize (bin y).length = ly at *
  go_enter Tryd.func40, Tryd.ntmps40
  go_wp2_with fail
  go_loopw [5, 6, 7] (fun v cr t wr => ∃ (i k : Nat) (acc : List Nat), i ≤ 1001 ∧ (k = 0 ∨ i ≤ lx ∨ i ≤ ly) ∧ k ≤ 1 ∧ t = .int .i64 i ∧ cr = .int .i64 k ∧ Hid (acc.length = i) ∧ Hid (bin (x + y) = acc ++ bin (k + x / 2 ^ i + y / 2 ^ i)) ∧ Hid (OwnN w acc v wr)) (fun _ _ t _ => 2003 - (intOf t).toNat)
  case atStart => exact ⟨0, 0, [], by omega, by omega, by omega, rfl, rfl, Lib.hid rfl, Lib.hid (by simp), Lib.hid (OwnN.none w)⟩
  case round =>
    obtain ⟨i, k, acc, hi1, hik, hk1, rfl, rfl, HA, HE, HO⟩ := hrel
    by_cases cx : i < lx
    · by_cases cy : i < ly
      · have := hik
        obtain ⟨b, off, rfl, hlt, hcell⟩ := HR.out i cx
        replace hcell := cell_later HO.out.2 hcell
        obtain ⟨b', off', rfl, hlt', hcell'⟩ := HR'.out i cy
        replace hcell' := cell_later HO.out.2 hcell'
        obtain ⟨k', hk'⟩ : ∃ k', (k + (x / 2 ^ i % 2) + (y / 2 ^ i % 2)) / 2 = k' := ⟨_, rfl⟩
        obtain ⟨dg, hdg⟩ : ∃ dg, (k + (x / 2 ^ i % 2) + (y / 2 ^ i % 2)) % 2 = dg := ⟨_, rfl⟩
        have HS := Lib.hid (plus_next (x := x) (y := y) (i := i) (k := k) (k' := k') (dg := dg) HE.out (Or.inl ((HX.out i).1 cx)) (Or.inl rfl) (Or.inl rfl) (by rw [← hk']) (by rw [← hdg]))
        obtain ⟨p, hp⟩ : ∃ p, x / 2 ^ i % 2 = p := ⟨_, rfl⟩
        have hp1 : p ≤ 1 := by omega
        rw [hp] at hcell hk' hdg
        obtain ⟨q, hq⟩ : ∃ q, y / 2 ^ i % 2 = q := ⟨_, rfl⟩
        have hq1 : q ≤ 1 := by omega
        rw [hq] at hcell' hk' hdg
        have hkb : k' ≤ 1 := by omega
        have e2 : ((k : Int) + (p : Int) + (q : Int)) % 2 = (dg : Int) := by omega
        have e3 : ((k : Int) + (p : Int) + (q : Int)) / 2 = (k' : Int) := by omega
        clear hk' hdg hp hq HX HY HR HR'
        have dx : decide ((i : Int) < (lx : Int)) = true := decide_eq_true (by omega)
        have dy : decide ((i : Int) < (ly : Int)) = true := decide_eq_true (by omega)
        go_wp2_with (at_builtin; refine wpList_append_own _ rfl _ _ 45 rfl w.heap.size 3 i0 _ 1 8 Tryd.underlying45 hi hz0 hz1 hz2 rfl (by decide) _ acc.length (encN acc) rfl (HO.out.1.alloc _) ⟨wr.heap.size, 0, none⟩ 1 1 [.int .i64 (dg : Int)] rfl rfl (one_new _ _ _) (by intro u hu; simp at hu; subst hu; rfl) (by unfold maxLen; have := HA.out; omega) (by have := HA.out; omega) (by have := HO.out.2.size; simp; omega) ?_; intro v' w5 hown' hgrow' _)
        have HO' := Lib.hid (HO.out.more hown' hgrow')
        clear hown' hgrow'
        go_wp2_with fail
        go_roundw
        case rel => exact ⟨i + 1, k', acc ++ [dg], by omega, by omega, by omega, by go_num, (by first | exact congrArg (Value.int .i64) e3 | rfl), Lib.hid (by rw [List.length_append, HA.out]; rfl), HS, HO'⟩
        case measure => simp [intOf]; omega
      · have := hik
        obtain ⟨b, off, rfl, hlt, hcell⟩ := HR.out i cx
        replace hcell := cell_later HO.out.2 hcell
        obtain ⟨k', hk'⟩ : ∃ k', (k + (x / 2 ^ i % 2) + 0) / 2 = k' := ⟨_, rfl⟩
        obtain ⟨dg, hdg⟩ : ∃ dg, (k + (x / 2 ^ i % 2) + 0) % 2 = dg := ⟨_, rfl⟩
        have HS := Lib.hid (plus_next (x := x) (y := y) (i := i) (k := k) (k' := k') (dg := dg) HE.out (Or.inl ((HX.out i).1 cx)) (Or.inl rfl) (Or.inr ⟨Nat.eq_zero_of_not_ne (fun e => cy ((HY.out i).2 e)), rfl⟩) (by rw [← hk']) (by rw [← hdg]))
        obtain ⟨p, hp⟩ : ∃ p, x / 2 ^ i % 2 = p := ⟨_, rfl⟩
        have hp1 : p ≤ 1 := by omega
        rw [hp] at hcell hk' hdg
        have hkb : k' ≤ 1 := by omega
        have e2 : ((k : Int) + (p : Int)) % 2 = (dg : Int) := by omega
        have e3 : ((k : Int) + (p : Int)) / 2 = (k' : Int) := by omega
        clear hk' hdg hp HX HY HR HR'
        have dx : decide ((i : Int) < (lx : Int)) = true := decide_eq_true (by omega)
        have dy : decide (i < ly) = false := decide_eq_false cy
        go_wp2_with (at_builtin; refine wpList_append_own _ rfl _ _ 45 rfl w.heap.size 3 i0 _ 1 8 Tryd.underlying45 hi hz0 hz1 hz2 rfl (by decide) _ acc.length (encN acc) rfl (HO.out.1.alloc _) ⟨wr.heap.size, 0, none⟩ 1 1 [.int .i64 (dg : Int)] rfl rfl (one_new _ _ _) (by intro u hu; simp at hu; subst hu; rfl) (by unfold maxLen; have := HA.out; omega) (by have := HA.out; omega) (by have := HO.out.2.size; simp; omega) ?_; intro v' w5 hown' hgrow' _)
        have HO' := Lib.hid (HO.out.more hown' hgrow')
        clear hown' hgrow'
        go_wp2_with fail
        go_roundw
        case rel => exact ⟨i + 1, k', acc ++ [dg], by omega, by omega, by omega, by go_num, (by first | exact congrArg (Value.int .i64) e3 | rfl), Lib.hid (by rw [List.length_append, HA.out]; rfl), HS, HO'⟩
        case measure => simp [intOf]; omega
    · by_cases cy : i < ly
      · have := hik
        obtain ⟨b', off', rfl, hlt', hcell'⟩ := HR'.out i cy
        replace hcell' := cell_later HO.out.2 hcell'
        obtain ⟨k', hk'⟩ : ∃ k', (k + 0 + (y / 2 ^ i % 2)) / 2 = k' := ⟨_, rfl⟩
        obtain ⟨dg, hdg⟩ : ∃ dg, (k + 0 + (y / 2 ^ i % 2)) % 2 = dg := ⟨_, rfl⟩
        have HS := Lib.hid (plus_next (x := x) (y := y) (i := i) (k := k) (k' := k') (dg := dg) HE.out (Or.inr (Or.inl ((HY.out i).1 cy))) (Or.inr ⟨Nat.eq_zero_of_not_ne (fun e => cx ((HX.out i).2 e)), rfl⟩) (Or.inl rfl) (by rw [← hk']) (by rw [← hdg]))
        obtain ⟨q, hq⟩ : ∃ q, y / 2 ^ i % 2 = q := ⟨_, rfl⟩
        have hq1 : q ≤ 1 := by omega
        rw [hq] at hcell' hk' hdg
        have hkb : k' ≤ 1 := by omega
        have e2 : ((k : Int) + (q : Int)) % 2 = (dg : Int) := by omega
        have e3 : ((k : Int) + (q : Int)) / 2 = (k' : Int) := by omega
        clear hk' hdg hq HX HY HR HR'
        have dx : decide (i < lx) = false := decide_eq_false cx
        have dy : decide ((i : Int) < (ly : Int)) = true := decide_eq_true (by omega)
        go_wp2_with (at_builtin; refine wpList_append_own _ rfl _ _ 45 rfl w.heap.size 3 i0 _ 1 8 Tryd.underlying45 hi hz0 hz1 hz2 rfl (by decide) _ acc.length (encN acc) rfl (HO.out.1.alloc _) ⟨wr.heap.size, 0, none⟩ 1 1 [.int .i64 (dg : Int)] rfl rfl (one_new _ _ _) (by intro u hu; simp at hu; subst hu; rfl) (by unfold maxLen; have := HA.out; omega) (by have := HA.out; omega) (by have := HO.out.2.size; simp; omega) ?_; intro v' w5 hown' hgrow' _)
        have HO' := Lib.hid (HO.out.more hown' hgrow')
        clear hown' hgrow'
        go_wp2_with fail
        go_roundw
        case rel => exact ⟨i + 1, k', acc ++ [dg], by omega, by omega, by omega, by go_num, (by first | exact congrArg (Value.int .i64) e3 | rfl), Lib.hid (by rw [List.length_append, HA.out]; rfl), HS, HO'⟩
        case measure => simp [intOf]; omega
      · by_cases ck : k ≠ 0
        · have hk11 : 1 ≤ k := by omega
          obtain ⟨k', hk'⟩ : ∃ k', (k + 0 + 0) / 2 = k' := ⟨_, rfl⟩
          obtain ⟨dg, hdg⟩ : ∃ dg, (k + 0 + 0) % 2 = dg := ⟨_, rfl⟩
          have HS := Lib.hid (plus_next (x := x) (y := y) (i := i) (k := k) (k' := k') (dg := dg) HE.out (Or.inr (Or.inr ck)) (Or.inr ⟨Nat.eq_zero_of_not_ne (fun e => cx ((HX.out i).2 e)), rfl⟩) (Or.inr ⟨Nat.eq_zero_of_not_ne (fun e => cy ((HY.out i).2 e)), rfl⟩) (by rw [← hk']) (by rw [← hdg]))
          have hkb : k' ≤ 1 := by omega
          have e2 : ((k : Int)) % 2 = (dg : Int) := by omega
          have e3 : ((k : Int)) / 2 = (k' : Int) := by omega
          have hk0 : k' ≤ 0 := by omega
          have dk : decide ((0 : Int) < (k : Int)) = true := decide_eq_true (by omega)
          have dk' : decide (0 < k) = true := decide_eq_true (by omega)
          clear hk' hdg HX HY HR HR'
          have dx : decide (i < lx) = false := decide_eq_false cx
          have dy : decide (i < ly) = false := decide_eq_false cy
          go_wp2_with (at_builtin; refine wpList_append_own _ rfl _ _ 45 rfl w.heap.size 3 i0 _ 1 8 Tryd.underlying45 hi hz0 hz1 hz2 rfl (by decide) _ acc.length (encN acc) rfl (HO.out.1.alloc _) ⟨wr.heap.size, 0, none⟩ 1 1 [.int .i64 (dg : Int)] rfl rfl (one_new _ _ _) (by intro u hu; simp at hu; subst hu; rfl) (by unfold maxLen; have := HA.out; omega) (by have := HA.out; omega) (by have := HO.out.2.size; simp; omega) ?_; intro v' w5 hown' hgrow' _)
          have HO' := Lib.hid (HO.out.more hown' hgrow')
          clear hown' hgrow'
          go_wp2_with fail
          go_roundw
          case rel => exact ⟨i + 1, k', acc ++ [dg], by omega, by omega, by omega, by go_num, (by first | exact congrArg (Value.int .i64) e3 | rfl), Lib.hid (by rw [List.length_append, HA.out]; rfl), HS, HO'⟩
          case measure => simp [intOf]; omega
        · obtain rfl : k = 0 := by omega
          have zx := Nat.eq_zero_of_not_ne (fun e => cx ((HX.out i).2 e))
          have zy := Nat.eq_zero_of_not_ne (fun e => cy ((HY.out i).2 e))
          have HF := Lib.hid (show bin (x + y) = acc by rw [HE.out, zx, zy, bin_zero, List.append_nil])
          have dx : decide (i < lx) = false := decide_eq_false cx
          have dy : decide (i < ly) = false := decide_eq_false cy
          clear zx zy HX HY HR HR'
          go_wp2_with fail
          go_ret
          rw [HF.out]
          exact HO.out.post
end Go.Proofs.YtdmddfhjfkdlnaaDoor
