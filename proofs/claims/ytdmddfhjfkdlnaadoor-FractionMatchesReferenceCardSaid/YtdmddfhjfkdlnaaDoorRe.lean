/- The contract of the reference's value. Under no condition. -/
import Derived.Test.YtdmddfhjfkdlnaaDoorRc
namespace Go.Proofs.YtdmddfhjfkdlnaaDoor
open Go.RowKit

theorem less_at {A B : Option Addr} {c c' n m : Nat} {x y : Nat} (hn : n = (bin x).length) (hm : m = (bin y).length) (w : World) (hr : RdN w A (bin x)) (hr' : RdN w B (bin y)) (hl : (bin x).length ≤ 1000) :
    Calls Tryd.prog 41 #[.slice A n c, .slice B m c'] w fun e w' => e = .returned (.bool (decide (x < y))) ∧ Gr w w' := by
  subst hn hm; exact less_any' A B c c' x y w hr hr' hl
theorem most_bits : (bin 4611686018427387904).length ≤ 1000 := by
  have := bin_len 4611686018427387904 63 (by decide); omega
/-- what value returns -/
def vlN (x : Nat) : Int := if x ≤ 4611686018427387904 then x else 0
def vlB (x : Nat) : Bool := decide (x ≤ 4611686018427387904)
set_option maxHeartbeats 4000000 in
theorem value_any (A : Option Addr) (c : Nat) (x : Nat) (w : World) (hr : RdN w A (bin x)) (hl : (bin x).length ≤ 1000) :
    Calls Tryd.prog 50 #[.slice A (bin x).length c] w fun e w' => e = .returned (.tuple #[.int .i64 (vlN x), .bool (vlB x)]) ∧ Below w.heap.size w w' := by
  have HD := Lib.hid (fun W => digits_any 4611686018427387904 W (by decide) (by decide))
  by_cases hx : x ≤ 4611686018427387904
  · have HV := Lib.hid (show vlN x = x ∧ vlB x = true from ⟨if_pos hx, decide_eq_true hx⟩)
    have HLE := Lib.hid hx
    have HDr := Lib.hid (bin_drop x)
    have HRD := Lib.hid (fun (i : Nat) (h : i < (bin x).length) => hr.digit h)
    have HR := Lib.hid hr
    obtain ⟨lx, hlx⟩ : ∃ lx, lx = (bin x).length := ⟨_, rfl⟩
    have HLX := Lib.hid hlx
    rw [← hlx] at hl ⊢
    rw [← hlx] at HRD
    have HS := Lib.hid (show x / 2 ^ lx = 0 by rw [hlx]; exact Nat.div_eq_of_lt (by have := val_lt (bin x) (bin_dg x); rwa [val_bin] at this))
    have hb : decide (4611686018427387904 < x) = false := decide_eq_false (by omega)
    clear hx hr hlx
    go_enter Tryd.func50, Tryd.ntmps50
    go_wp2_with fail
    refine (HD.out _).mono ?_
    rintro e w1 ⟨B, c2, rfl, g1, g2, g3⟩
    have HB := Lib.hid g3
    have LS := Lib.hid (less_at (A := B) (B := A) (c := c2) (c' := c) rfl HLX.out w1 g2 (HR.out.keep g3) most_bits)
    rw [show (4611686018427387904 : Int).natAbs = 4611686018427387904 from rfl] at LS
    rw [hb] at LS
    clear g1 g2 g3 hb
    go_wp2_with fail
    refine LS.out.mono ?_
    rintro e w2 ⟨rfl, hg⟩
    have HB2 := Lib.hid (HB.out.trans (hg.below.mono HB.out.size))
    clear hg
    go_wp2_with fail
    go_loopw [4, 5] (fun nn t wr => ∃ (k v : Nat), k ≤ lx ∧ t = .int .i64 ((k : Int) - 1) ∧ nn = .int .i64 v ∧ v ≤ 4611686018427387904 ∧ Hid (v = x / 2 ^ k) ∧ Hid (Below w.heap.size w wr)) (fun _ t _ => (intOf t + 1).toNat)
    case atStart => exact ⟨lx, 0, Nat.le_refl _, rfl, rfl, by omega, Lib.hid HS.out.symm, HB2⟩
    case round =>
      obtain ⟨k, v, hk, rfl, rfl, hv, HVK, HBW⟩ := hrel
      rcases Nat.eq_zero_or_pos k with h0 | h0
      · subst h0
        have d1 : decide ((0 : Int) ≤ ((0 : Nat) : Int) - 1) = false := by decide
        have E : Hid (v = x) := Lib.hid (by rw [HVK.out]; simp)
        go_wp2_with fail
        go_ret2
        exact ⟨by rw [HV.out.1, HV.out.2, ← E.out]; rfl, HBW.out⟩
      · obtain ⟨m, rfl⟩ : ∃ m, k = m + 1 := ⟨k - 1, by omega⟩
        obtain ⟨b, off, rfl, hlt, hcell⟩ := HRD.out m (by omega)
        replace hcell := cell_later HBW.out hcell
        obtain ⟨p, hp⟩ : ∃ p, p = x / 2 ^ m % 2 := ⟨_, rfl⟩
        rw [← hp] at hcell
        have hvv : 2 * v + p = x / 2 ^ m := by have := HVK.out; rw [sh_succ] at this; omega
        have hle : x / 2 ^ m ≤ 4611686018427387904 := Nat.le_trans (Nat.div_le_self _ _) HLE.out
        have hb2 : 2 * v + p ≤ 4611686018427387904 := by omega
        have HVV := Lib.hid hvv
        clear hp hvv hle
        go_wp2_with fail
        go_roundw
        case rel => exact ⟨m, 2 * v + p, by omega, by go_num, by go_num, hb2, HVV, HBW⟩
        case measure => simp [intOf]
  · have HV := Lib.hid (show vlN x = 0 ∧ vlB x = false from ⟨if_neg hx, decide_eq_false hx⟩)
    have HR := Lib.hid hr
    obtain ⟨lx, hlx⟩ : ∃ lx, lx = (bin x).length := ⟨_, rfl⟩
    have HLX := Lib.hid hlx
    rw [← hlx] at hl ⊢
    have hb : decide (4611686018427387904 < x) = true := decide_eq_true (by omega)
    clear hx hr hlx
    go_enter Tryd.func50, Tryd.ntmps50
    go_wp2_with fail
    refine (HD.out _).mono ?_
    rintro e w1 ⟨B, c2, rfl, g1, g2, g3⟩
    have HB := Lib.hid g3
    have LS := Lib.hid (less_at (A := B) (B := A) (c := c2) (c' := c) rfl HLX.out w1 g2 (HR.out.keep g3) most_bits)
    rw [show (4611686018427387904 : Int).natAbs = 4611686018427387904 from rfl] at LS
    rw [hb] at LS
    clear g1 g2 g3 hb
    go_wp2_with fail
    refine LS.out.mono ?_
    rintro e w2 ⟨rfl, hg⟩
    have HB2 := Lib.hid (HB.out.trans (hg.below.mono HB.out.size))
    clear hg
    go_wp2_with fail
    go_ret2
    exact ⟨by rw [HV.out.1, HV.out.2]; rfl, HB2.out⟩
end Go.Proofs.YtdmddfhjfkdlnaaDoor
