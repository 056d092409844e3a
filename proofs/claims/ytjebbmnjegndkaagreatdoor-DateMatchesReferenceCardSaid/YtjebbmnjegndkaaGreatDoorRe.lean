/- The contracts of the reference's digits and Text. Under no condition. -/
import Derived.Test.YtjebbmnjegndkaaGreatDoorRd
import Derived.Test.YtjebbmnjegndkaaGreatDoorTa
namespace Go.Proofs.YtjebbmnjegndkaaGreatDoor
open Go.RowKit
/-- the last n digits of a number, ahead of a text -/
def dgs : Nat → Nat → List UInt8 → List UInt8
  | 0, _, s => s
  | n + 1, x, s => dgs n (x / 10) (dg (x % 10) :: s)
theorem dgs_len : ∀ (n x : Nat) (s : List UInt8), (dgs n x s).length = n + s.length
  | 0, _, s => by simp [dgs]
  | n + 1, x, s => by rw [dgs, dgs_len n]; simp; omega
theorem dig_str (r : Nat) (h : r < 10) (s : List UInt8) : ({ data := #[48, 49, 50, 51, 52, 53, 54, 55, 56, 57] } : ByteArray).extract r (r + 1) ++ { data := s.toArray } = ⟨(dg r :: s).toArray⟩ := by
  have e : ({ data := #[48, 49, 50, 51, 52, 53, 54, 55, 56, 57] } : ByteArray).extract r (r + 1) = ⟨#[dg r]⟩ := by
    match r, h with
    | 0, _ => rfl | 1, _ => rfl | 2, _ => rfl | 3, _ => rfl | 4, _ => rfl | 5, _ => rfl | 6, _ => rfl | 7, _ => rfl | 8, _ => rfl | 9, _ => rfl
  rw [e]
  apply ByteArray.ext; simp
set_option maxHeartbeats 2000000 in
set_option maxRecDepth 100000 in
theorem rdigits_any (X N : Nat) (w : World) (hX : X < 10 ^ N) (hN : N ≤ 4) :
    Calls Tryz.prog 27 #[.int .i64 X, .int .i64 N] w fun e w' => e = .returned (.string ⟨(dgs N X []).toArray⟩) ∧ w = w' := by
  obtain ⟨R, hR⟩ : ∃ R, dgs N X [] = R := ⟨_, rfl⟩
  rw [hR]
  have HR := Lib.hid hR
  clear hR
  have HX := Lib.hid hX
  clear hX
  have hRl := Lib.hid (show R.length ≤ 4 by rw [← HR.out, dgs_len]; simpa using hN)
  go_enter Tryz.func27, Tryz.ntmps27
  go_wp2_with fail
  go_loop [0, 1, 5] (fun xv nv sv => ∃ (x n : Nat) (s : List UInt8), Hid (x < 10 ^ n ∧ dgs n x s = R) ∧ n ≤ 4 ∧ x ≤ 10000 ∧ xv = .int .i64 x ∧ nv = .int .i64 n ∧ sv = .string ⟨s.toArray⟩) (fun _ n _ => (intOf n).toNat)
  case atStart =>
    refine ⟨X, N, [], ⟨HX.out, HR.out⟩, hN, ?_, rfl, rfl, rfl⟩
    have : 10 ^ N ≤ 10 ^ 4 := Nat.pow_le_pow_right (by omega) hN
    have := HX.out
    omega
  case round =>
    obtain ⟨x, n, s, H, n4, x4, rfl, rfl, rfl⟩ := hrel
    cases n with
    | zero =>
      obtain rfl : x = 0 := by have := H.out.1; omega
      have H2 := Lib.hid H.out.2
      go_wp2_with fail
      go_ret
      exact ⟨by rw [← H2.out]; rfl, rfl⟩
    | succ n =>
      have hl : s.length ≤ 4 := by have := hRl.out; rw [← H.out.2, dgs_len] at this; omega
      by_cases hx : 0 < x
      · have hxi : (0 : Int) < (x : Int) := by omega
        go_wp2_with fail
        refine ⟨⟨x / 10, n, dg (x % 10) :: s, ⟨?_, H.out.2⟩, by omega, by omega, by congr 1, rfl, by rw [dig_str _ (by omega)]⟩, by simp [intOf]⟩
        have := H.out.1
        rw [Nat.pow_succ] at this
        omega
      · obtain rfl : x = 0 := by omega
        go_wp2_with fail
        refine ⟨⟨0, n, dg 0 :: s, ⟨Nat.pow_pos (by omega), H.out.2⟩, by omega, by omega, rfl, rfl, by rw [show (1 : Nat) = 0 + 1 from rfl, dig_str _ (by omega)]⟩, by simp [intOf]⟩
theorem dgs4 (y : Nat) (h : y < 10000) : dgs 4 y [] = [dg (y / 1000), dg (y / 100 % 10), dg (y / 10 % 10), dg (y % 10)] := by
  show [dg (y / 10 / 10 / 10 % 10), dg (y / 10 / 10 % 10), dg (y / 10 % 10), dg (y % 10)] = _
  rw [show y / 10 / 10 / 10 % 10 = y / 1000 by omega, show y / 10 / 10 = y / 100 by omega]
theorem dgs2 (y : Nat) (h : y < 100) : dgs 2 y [] = [dg (y / 10), dg (y % 10)] := by
  show [dg (y / 10 % 10), dg (y % 10)] = _
  rw [Nat.mod_eq_of_lt (show y / 10 < 10 by omega)]
theorem rdigits_int (x : Int) (N : Nat) (w : World) (h0 : 0 ≤ x) (hX : x.toNat < 10 ^ N) (hN : N ≤ 4) :
    Calls Tryz.prog 27 #[.int .i64 x, .int .i64 N] w fun e w' => e = .returned (.string ⟨(dgs N x.toNat []).toArray⟩) ∧ w = w' := by
  obtain ⟨k, rfl⟩ := Int.eq_ofNat_of_zero_le h0
  exact rdigits_any k N w hX hN
set_option maxHeartbeats 1000000 in
theorem rtext_no (n : Int) (w : World) (h : n < 0 ∨ 100000 < n) :
    Calls Tryz.prog 14 #[.int .i64 n] w fun e w' => e = .returned (.tuple #[.string ⟨#[]⟩, .int .i64 1]) ∧ w = w' := by
  go_enter Tryz.func14, Tryz.ntmps14
  go_wp2_with fail
  refine (rsplit_no _ _ h).mono ?_
  rintro e w' ⟨rfl, rfl⟩
  go_wp2_with fail
  go_ret2
  exact ⟨rfl, rfl⟩
set_option maxHeartbeats 1000000 in
theorem rtext_yes (n : Int) (w : World) (h0 : 0 ≤ n) (h1 : n ≤ 100000) :
    Calls Tryz.prog 14 #[.int .i64 n] w fun e w' => e = .returned (.tuple #[.string ⟨(txt n).toArray⟩, .int .i64 0]) ∧ w = w' := by
  have ⟨y1, y2⟩ := split_yr n h0 h1
  have ⟨m1, m2, d1, d2, _⟩ := split_ok n
  have hl := len_bd (spY n) (spM n) m1 m2
  have HT := Lib.hid (txt_ten n h0 h1)
  have A1 := Lib.hid (rdigits_int (spY n) 4 w (by omega) (by omega) (by omega))
  have A2 := Lib.hid (rdigits_int (spM n) 2 w (by omega) (by omega) (by omega))
  have A3 := Lib.hid (rdigits_int (spD n) 2 w (by omega) (by omega) (by omega))
  rw [dgs4 _ (by omega)] at A1
  rw [dgs2 _ (by omega)] at A2
  rw [dgs2 _ (by omega)] at A3
  go_enter Tryz.func14, Tryz.ntmps14
  go_wp2_with fail
  refine (rsplit_yes _ _ h0 h1).mono ?_
  rintro e w' ⟨rfl, rfl⟩
  go_wp2_with fail
  refine A1.out.mono ?_
  rintro e w' ⟨rfl, rfl⟩
  go_wp2_with fail
  refine A2.out.mono ?_
  rintro e w' ⟨rfl, rfl⟩
  go_wp2_with fail
  refine A3.out.mono ?_
  rintro e w' ⟨rfl, rfl⟩
  go_wp2_with fail
  go_ret2
  exact ⟨by rw [HT.out]; rfl, rfl⟩
end Go.Proofs.YtjebbmnjegndkaaGreatDoor
