/- The contracts of the reference's digits, Text, value, Parse of days. Under no condition. -/
import Derived.Test.YtngbkdnkpolbfaaDoorDX
import Derived.Test.YtngbkdnkpolbfaaDoorFQ
namespace Go.Proofs.YtngbkdnkpolbfaaDoor
open Go.RowKit
/-- the last n digits of a number, ahead of a text -/
def dgs : Nat → Nat → List UInt8 → List UInt8
  | 0, _, s => s
  | n + 1, x, s => dgs n (x / 10) (dg (x % 10) :: s)
theorem dgs_len : ∀ (n x : Nat) (s : List UInt8), (dgs n x s).length = n + s.length
  | 0, _, s => by simp [dgs]
  | n + 1, x, s => by rw [dgs, dgs_len n]; simp; omega
theorem dig_str (r : Nat) (h : r < 10) (s : List UInt8) : ({ data := #[48, 49, 50, 51, 52, 53, 54, 55, 56, 57] } : ByteArray).extract r (r + 1) ++ { data := s.toArray } = ⟨(dg r :: s).toArray⟩ := by
  have e : ({ data := #[48, 49, 50, 51, 52, 53, 54, 55, 56, 57] } : ByteArray).extract r (r + 1) = ⟨#[dg r]⟩ := by
    match r, h with
    | 0, _ => rfl | 1, _ => rfl | 2, _ => rfl | 3, _ => rfl | 4, _ => rfl | 5, _ => rfl | 6, _ => rfl | 7, _ => rfl | 8, _ => rfl | 9, _ => rfl
  rw [e]
  apply ByteArray.ext; simp
set_option maxHeartbeats 2000000 in
set_option maxRecDepth 100000 in
theorem rdigits_any (X N : Nat) (w : World) (hX : X < 10 ^ N) (hN : N ≤ 4) :
    Calls Tryd.prog 52 #[.int .i64 X, .int .i64 N] w fun e w' => e = .returned (.string ⟨(dgs N X []).toArray⟩) ∧ w = w' := by
  obtain ⟨R, hR⟩ : ∃ R, dgs N X [] = R := ⟨_, rfl⟩
  rw [hR]
  have HR := Lib.hid hR
  clear hR
  have HX := Lib.hid hX
  clear hX
  have hRl := Lib.hid (show R.length ≤ 4 by rw [← HR.out, dgs_len]; simpa using hN)
  go_enter Tryd.func52, Tryd.ntmps52
  go_wp2_with fail
  go_loop [0, 1, 5] (fun xv nv sv => ∃ (x n : Nat) (s : List UInt8), Hid (x < 10 ^ n ∧ dgs n x s = R) ∧ n ≤ 4 ∧ x ≤ 10000 ∧ xv = .int .i64 x ∧ nv = .int .i64 n ∧ sv = .string ⟨s.toArray⟩) (fun _ n _ => (intOf n).toNat)
  case atStart =>
    refine ⟨X, N, [], ⟨HX.out, HR.out⟩, hN, ?_, rfl, rfl, rfl⟩
    have : 10 ^ N ≤ 10 ^ 4 := Nat.pow_le_pow_right (by omega) hN
    have := HX.out
    omega
  case round =>
    obtain ⟨x, n, s, H, n4, x4, rfl, rfl, rfl⟩ := hrel
    cases n with
    | zero =>
      obtain rfl : x = 0 := by have := H.out.1; omega
      have H2 := Lib.hid H.out.2
      go_wp2_with fail
      go_ret
      exact ⟨by rw [← H2.out]; rfl, rfl⟩
    | succ n =>
      have hl : s.length ≤ 4 := by have := hRl.out; rw [← H.out.2, dgs_len] at this; omega
      by_cases hx : 0 < x
      · have hxi : (0 : Int) < (x : Int) := by omega
        go_wp2_with fail
        refine ⟨⟨x / 10, n, dg (x % 10) :: s, ⟨?_, H.out.2⟩, by omega, by omega, by congr 1, rfl, by rw [dig_str _ (by omega)]⟩, by simp [intOf]⟩
        have := H.out.1
        rw [Nat.pow_succ] at this
        omega
      · obtain rfl : x = 0 := by omega
        go_wp2_with fail
        refine ⟨⟨0, n, dg 0 :: s, ⟨Nat.pow_pos (by omega), H.out.2⟩, by omega, by omega, rfl, rfl, by rw [show (1 : Nat) = 0 + 1 from rfl, dig_str _ (by omega)]⟩, by simp [intOf]⟩
theorem dgs4 (y : Nat) (h : y < 10000) : dgs 4 y [] = [dg (y / 1000), dg (y / 100 % 10), dg (y / 10 % 10), dg (y % 10)] := by
  show [dg (y / 10 / 10 / 10 % 10), dg (y / 10 / 10 % 10), dg (y / 10 % 10), dg (y % 10)] = _
  rw [show y / 10 / 10 / 10 % 10 = y / 1000 by omega, show y / 10 / 10 = y / 100 by omega]
theorem dgs2 (y : Nat) (h : y < 100) : dgs 2 y [] = [dg (y / 10), dg (y % 10)] := by
  show [dg (y / 10 % 10), dg (y % 10)] = _
  rw [Nat.mod_eq_of_lt (show y / 10 < 10 by omega)]
theorem rdigits_int (x : Int) (N : Nat) (w : World) (h0 : 0 ≤ x) (hX : x.toNat < 10 ^ N) (hN : N ≤ 4) :
    Calls Tryd.prog 52 #[.int .i64 x, .int .i64 N] w fun e w' => e = .returned (.string ⟨(dgs N x.toNat []).toArray⟩) ∧ w = w' := by
  obtain ⟨k, rfl⟩ := Int.eq_ofNat_of_zero_le h0
  exact rdigits_any k N w hX hN
set_option maxHeartbeats 1000000 in
theorem rtext_no (n : Int) (w : World) (h : n < 0 ∨ 100000 < n) :
    Calls Tryd.prog 35 #[.int .i64 n] w fun e w' => e = .returned (.tuple #[.string ⟨#[]⟩, .int .i64 1]) ∧ w = w' := by
  go_enter Tryd.func35, Tryd.ntmps35
  go_wp2_with fail
  refine (rsplit_no _ _ h).mono ?_
  rintro e w' ⟨rfl, rfl⟩
  go_wp2_with fail
  go_ret2
  exact ⟨rfl, rfl⟩
set_option maxHeartbeats 1000000 in
theorem rtext_yes (n : Int) (w : World) (h0 : 0 ≤ n) (h1 : n ≤ 100000) :
    Calls Tryd.prog 35 #[.int .i64 n] w fun e w' => e = .returned (.tuple #[.string ⟨(txt n).toArray⟩, .int .i64 0]) ∧ w = w' := by
  have ⟨y1, y2⟩ := split_yr n h0 h1
  have ⟨m1, m2, d1, d2, _⟩ := split_ok n
  have hl := len_bd (spY n) (spM n) m1 m2
  have HT := Lib.hid (txt_ten n h0 h1)
  have A1 := Lib.hid (rdigits_int (spY n) 4 w (by omega) (by omega) (by omega))
  have A2 := Lib.hid (rdigits_int (spM n) 2 w (by omega) (by omega) (by omega))
  have A3 := Lib.hid (rdigits_int (spD n) 2 w (by omega) (by omega) (by omega))
  rw [dgs4 _ (by omega)] at A1
  rw [dgs2 _ (by omega)] at A2
  rw [dgs2 _ (by omega)] at A3
  go_enter Tryd.func35, Tryd.ntmps35
  go_wp2_with fail
  refine (rsplit_yes _ _ h0 h1).mono ?_
  rintro e w' ⟨rfl, rfl⟩
  go_wp2_with fail
  refine A1.out.mono ?_
  rintro e w' ⟨rfl, rfl⟩
  go_wp2_with fail
  refine A2.out.mono ?_
  rintro e w' ⟨rfl, rfl⟩
  go_wp2_with fail
  refine A3.out.mono ?_
  rintro e w' ⟨rfl, rfl⟩
  go_wp2_with fail
  go_ret2
  exact ⟨by rw [HT.out]; rfl, rfl⟩
/-- a digit -/
def isD (c : UInt8) : Bool := decide (48 ≤ c.toNat ∧ c.toNat ≤ 57)
/-- the number of a text of digits -/
def vl (l : List UInt8) : Int := l.foldl (fun a c => 10 * a + ((c.toNat : Int) - 48)) 0
/-- what value returns -/
def valL (l : List UInt8) : Int := if l.all isD then vl l else -1
theorem vl_bd : ∀ (l : List UInt8), l.all isD = true → l.length ≤ 4 → 0 ≤ vl l ∧ vl l ≤ 9999 := by
  intro l h hl
  match l, hl with
  | [], _ => decide
  | [a], _ => simp [isD] at h; simp [vl]; omega
  | [a, b], _ => simp [isD] at h; simp [vl]; omega
  | [a, b, c], _ => simp [isD] at h; simp [vl]; omega
  | [a, b, c, d], _ => simp [isD] at h; simp [vl]; omega
theorem vl_snoc (l : List UInt8) (c : UInt8) : vl (l ++ [c]) = 10 * vl l + ((c.toNat : Int) - 48) := by simp [vl]
theorem take_next (s : ByteArray) (k : Nat) (h : k < s.size) : s.data.toList.take (k + 1) = s.data.toList.take k ++ [s[k]] := by
  have hl : k < s.data.toList.length := by simpa using h
  rw [List.take_add_one, List.getElem?_eq_getElem hl]
  rfl
theorem not_dig (s : ByteArray) (k : Nat) (h : k < s.size) (hd : isD s[k] = false) : valL s.data.toList = -1 := by
  unfold valL
  rw [if_neg]
  intro ha
  have hl : k < s.data.toList.length := by simpa using h
  have := List.all_eq_true.1 ha s.data.toList[k] (List.getElem_mem hl)
  have e : s.data.toList[k] = s[k] := rfl
  rw [e, hd] at this
  cases this
theorem one_more (s : ByteArray) (k : Nat) (v : Int) (h : k < s.size) (hd : isD s[k] = true) (H : (s.data.toList.take k).all isD = true ∧ vl (s.data.toList.take k) = v) :
    (s.data.toList.take (k + 1)).all isD = true ∧ vl (s.data.toList.take (k + 1)) = 10 * v + ((s[k].toNat : Int) - 48) := by
  rw [take_next s k h, vl_snoc, H.2]
  refine ⟨?_, rfl⟩
  rw [List.all_append, H.1]
  simp [hd]
set_option maxHeartbeats 2000000 in
set_option maxRecDepth 100000 in
theorem rvalue_any (s : ByteArray) (w : World) (h : s.size ≤ 4) :
    Calls Tryd.prog 56 #[.string s] w fun e w' => e = .returned (.int .i64 (valL s.data.toList)) ∧ w = w' := by
  go_enter Tryd.func56, Tryd.ntmps56
  go_wp2_with fail
  go_loop [3, 4] (fun nv iv => ∃ (k : Nat) (v : Int), k ≤ s.size ∧ 0 ≤ v ∧ v ≤ 9999 ∧ Hid ((s.data.toList.take k).all isD = true ∧ vl (s.data.toList.take k) = v) ∧ nv = .int .i64 v ∧ iv = .int .i64 k) (fun _ i => s.size - (intOf i).toNat)
  case atStart => exact ⟨0, 0, by omega, by omega, by omega, ⟨rfl, rfl⟩, rfl, rfl⟩
  case round =>
    obtain ⟨k, v, k1, v0, v1, H, rfl, rfl⟩ := hrel
    by_cases hk : k < s.size
    · have hki : (k : Int) < (s.size : Int) := by omega
      have HD := Lib.hid (not_dig s k hk)
      have HO := Lib.hid (fun hd => one_more s k v hk hd H.out)
      have HB := Lib.hid (vl_bd (s.data.toList.take (k + 1)))
      go_wp2_with fail
      · rename_i h1 h2
        go_ret
        refine ⟨?_, rfl⟩
        rw [HD.out (by simp [isD]; omega)]; rfl
      · rename_i h1 h2
        obtain ⟨a1, a2⟩ := HO.out (by simp [isD]; omega)
        obtain ⟨b1, b2⟩ := HB.out a1 (by rw [List.length_take]; omega)
        refine ⟨⟨k + 1, _, by omega, b1, b2, ⟨a1, rfl⟩, by rw [a2], rfl⟩, ?_⟩
        simp only [intOf]; omega
      · rename_i h1
        go_ret
        refine ⟨?_, rfl⟩
        rw [HD.out (by simp [isD]; omega)]; rfl
    · have e : k = s.size := by omega
      have HE : Hid (valL s.data.toList = v) := by
        obtain ⟨a1, a2⟩ := H.out
        rw [List.take_of_length_le (by simpa using (by omega : s.size ≤ k))] at a1 a2
        unfold Hid valL
        rw [if_pos a1, a2]
      go_wp2_with fail
      go_ret
      exact ⟨by rw [HE.out]; rfl, rfl⟩
theorem dg_nat : ∀ k : Nat, k < 10 → (dg k).toNat = 48 + k := by decide
theorem dg_is (k : Nat) (h : k < 10) : isD (dg k) = true := by
  unfold isD; rw [dg_nat k h]; simp; omega
theorem dg_of (c : UInt8) (n : Nat) (h : isD c = true) (hn : n = c.toNat - 48) : dg n = c := by
  simp [isD] at h
  subst hn
  unfold dg
  rw [show 48 + (c.toNat - 48) = c.toNat by omega]
  exact UInt8.ofNat_toNat
theorem val4 (y : Nat) (h : y < 10000) : valL [dg (y / 1000), dg (y / 100 % 10), dg (y / 10 % 10), dg (y % 10)] = y := by
  unfold valL
  rw [if_pos (by simp [dg_is (y / 1000) (by omega), dg_is (y / 100 % 10) (by omega), dg_is (y / 10 % 10) (by omega), dg_is (y % 10) (by omega)])]
  simp only [vl, List.foldl_cons, List.foldl_nil, dg_nat (y / 1000) (by omega), dg_nat (y / 100 % 10) (by omega), dg_nat (y / 10 % 10) (by omega), dg_nat (y % 10) (by omega)]
  omega
theorem val2 (y : Nat) (h : y < 100) : valL [dg (y / 10), dg (y % 10)] = y := by
  unfold valL
  rw [if_pos (by simp [dg_is (y / 10) (by omega), dg_is (y % 10) (by omega)])]
  simp only [vl, List.foldl_cons, List.foldl_nil, dg_nat (y / 10) (by omega), dg_nat (y % 10) (by omega)]
  omega
/-- the numbers of ten bytes, and the bytes of the numbers -/
theorem ten_back (c0 c1 c2 c3 c5 c6 c8 c9 : UInt8) (h1 : 0 ≤ valL [c0, c1, c2, c3]) (h2 : 0 ≤ valL [c5, c6]) (h3 : 0 ≤ valL [c8, c9]) :
    ten (valL [c0, c1, c2, c3]).toNat (valL [c5, c6]).toNat (valL [c8, c9]).toNat = [c0, c1, c2, c3, 45, c5, c6, 45, c8, c9] := by
  have a1 : [c0, c1, c2, c3].all isD = true := by unfold valL at h1; split at h1; assumption; omega
  have a2 : [c5, c6].all isD = true := by unfold valL at h2; split at h2; assumption; omega
  have a3 : [c8, c9].all isD = true := by unfold valL at h3; split at h3; assumption; omega
  have e1 : valL [c0, c1, c2, c3] = vl [c0, c1, c2, c3] := by unfold valL; rw [if_pos a1]
  have e2 : valL [c5, c6] = vl [c5, c6] := by unfold valL; rw [if_pos a2]
  have e3 : valL [c8, c9] = vl [c8, c9] := by unfold valL; rw [if_pos a3]
  rw [e1, e2, e3]
  simp only [List.all_cons, List.all_nil, Bool.and_true, Bool.and_eq_true] at a1 a2 a3
  obtain ⟨d0, d1, d2, d3⟩ := a1
  obtain ⟨d5, d6⟩ := a2
  obtain ⟨d8, d9⟩ := a3
  have f : ∀ c, isD c = true → 48 ≤ c.toNat ∧ c.toNat ≤ 57 := fun c h => by simpa [isD] using h
  have f0 := f _ d0; have f1 := f _ d1; have f2 := f _ d2; have f3 := f _ d3; have f5 := f _ d5; have f6 := f _ d6; have f8 := f _ d8; have f9 := f _ d9
  unfold ten
  simp only [vl, List.foldl_cons, List.foldl_nil]
  rw [dg_of c0 _ d0 (by omega), dg_of c1 _ d1 (by omega), dg_of c2 _ d2 (by omega), dg_of c3 _ d3 (by omega), dg_of c5 _ d5 (by omega), dg_of c6 _ d6 (by omega), dg_of c8 _ d8 (by omega), dg_of c9 _ d9 (by omega)]
theorem txt_parts (c0 c1 c2 c3 c4 c5 c6 c7 c8 c9 : UInt8) (a : Int) (a0 : 0 ≤ a) (a1 : a ≤ 100000) (h : [c0, c1, c2, c3, c4, c5, c6, c7, c8, c9] = txt a) :
    c4 = 45 ∧ c7 = 45 ∧ valL [c0, c1, c2, c3] = spY a ∧ valL [c5, c6] = spM a ∧ valL [c8, c9] = spD a := by
  obtain ⟨y1, y2⟩ := split_yr a a0 a1
  obtain ⟨m1, m2, d1, d2, _⟩ := split_ok a
  have lb := len_bd (spY a) (spM a) m1 m2
  rw [txt_ten a a0 a1] at h
  unfold ten at h
  simp only [List.cons.injEq, and_true] at h
  obtain ⟨rfl, rfl, rfl, rfl, rfl, rfl, rfl, rfl, rfl, rfl⟩ := h
  rw [val4 _ (by omega), val2 _ (by omega), val2 _ (by omega)]
  refine ⟨rfl, rfl, ?_, ?_, ?_⟩ <;> omega
theorem txt_made (y m d : Int) (h : mkE y m d = 0) (hm : 0 ≤ mkV y m d ∧ mkV y m d ≤ 100000) : txt (mkV y m d) = ten y.toNat m.toNat d.toNat := by
  obtain ⟨e, y1, y2, m1, m2, d1, d2, n0, n1⟩ := mk_ok y m d h
  rw [txt_ten _ hm.1 hm.2, e]
  obtain ⟨s1, s2, s3⟩ := split_num y m d m1 m2 d1 d2
  rw [s1, s2, s3]
/-- what the reference's Parse leaves -/
def RPP (l : List UInt8) (w : World) (e : Ending) (w' : World) : Prop :=
  w = w' ∧ ((∃ a : Int, 0 ≤ a ∧ a ≤ 100000 ∧ l = txt a ∧ e = .returned (.tuple #[.int .i64 a, .int .i64 0])) ∨ ((∀ a : Int, 0 ≤ a → a ≤ 100000 → l ≠ txt a) ∧ e = .returned (.tuple #[.int .i64 0, .int .i64 5])))
theorem u8_ne (c : UInt8) (h : c ≠ 45) : ((c.toNat : Int) == 45) = false := by
  rw [beq_eq_false_iff_ne]
  intro e
  apply h
  apply UInt8.toNat_inj.1
  show c.toNat = 45
  omega
set_option maxHeartbeats 4000000 in
set_option maxRecDepth 100000 in
theorem rparse_gen (s p1 p2 p3 : ByteArray) (w : World) (hz : s.size = 10) (x1 : s.extract 0 4 = p1) (x2 : s.extract 5 7 = p2) (x3 : s.extract 8 10 = p3)
    (z1 : p1.size ≤ 4) (z2 : p2.size ≤ 4) (z3 : p3.size ≤ 4)
    (TP : ∀ a : Int, 0 ≤ a → a ≤ 100000 → s.data.toList = txt a → s[4] = 45 ∧ s[7] = 45 ∧ valL p1.data.toList = spY a ∧ valL p2.data.toList = spM a ∧ valL p3.data.toList = spD a)
    (TB : s[4] = 45 → s[7] = 45 → 0 ≤ valL p1.data.toList → 0 ≤ valL p2.data.toList → 0 ≤ valL p3.data.toList → s.data.toList = ten (valL p1.data.toList).toNat (valL p2.data.toList).toNat (valL p3.data.toList).toNat) :
    Calls Tryd.prog 39 #[.string s] w (RPP s.data.toList w) := by
  have TP := Lib.hid TP
  have TB := Lib.hid TB
  have V1 := Lib.hid (rvalue_any p1 w z1)
  have V2 := Lib.hid (rvalue_any p2 w z2)
  have V3 := Lib.hid (rvalue_any p3 w z3)
  have hzi : (s.size : Int) = 10 := by omega
  by_cases h4 : s[4] = 45
  case neg =>
    have b4 := u8_ne s[4] h4
    have NO : Hid (∀ a : Int, 0 ≤ a → a ≤ 100000 → s.data.toList ≠ txt a) := fun a a0 a1 h => h4 (TP.out a a0 a1 h).1
    clear TP TB
    go_enter Tryd.func39, Tryd.ntmps39
    go_wp2_with fail
    go_ret2
    exact ⟨rfl, Or.inr ⟨NO.out, rfl⟩⟩
  have b4 : (s[4].toNat : Int) = 45 := by rw [h4]; rfl
  by_cases h7 : s[7] = 45
  case neg =>
    have b7 := u8_ne s[7] h7
    have NO : Hid (∀ a : Int, 0 ≤ a → a ≤ 100000 → s.data.toList ≠ txt a) := fun a a0 a1 h => h7 (TP.out a a0 a1 h).2.1
    clear TP TB
    go_enter Tryd.func39, Tryd.ntmps39
    go_wp2_with fail
    go_ret2
    exact ⟨rfl, Or.inr ⟨NO.out, rfl⟩⟩
  have b7 : (s[7].toNat : Int) = 45 := by rw [h7]; rfl
  have TB2 := Lib.hid (TB.out h4 h7)
  have NO : Hid (∀ a : Int, 0 ≤ a → a ≤ 100000 → s.data.toList = txt a → 0 ≤ valL p1.data.toList ∧ 0 ≤ valL p2.data.toList ∧ 0 ≤ valL p3.data.toList ∧ mkE (valL p1.data.toList) (valL p2.data.toList) (valL p3.data.toList) = 0) := fun a a0 a1 h => by
    obtain ⟨_, _, e1, e2, e3⟩ := TP.out a a0 a1 h
    obtain ⟨y1, y2⟩ := split_yr a a0 a1
    obtain ⟨m1, m2, d1, d2, _⟩ := split_ok a
    rw [e1, e2, e3]
    exact ⟨by omega, by omega, by omega, (mk_split a a0 a1).1⟩
  have TM : Hid (∀ y m d, mkE y m d = 0 → txt (mkV y m d) = ten y.toNat m.toNat d.toNat) := fun y m d h => txt_made y m d h (mkV_day y m d)
  clear TP TB
  generalize valL p1.data.toList = y at *
  generalize valL p2.data.toList = m at *
  generalize valL p3.data.toList = d at *
  go_enter Tryd.func39, Tryd.ntmps39
  go_wp2_with fail
  refine V1.out.mono ?_
  rintro e w' ⟨rfl, rfl⟩
  go_wp2_with fail
  refine V2.out.mono ?_
  rintro e w' ⟨rfl, rfl⟩
  go_wp2_with fail
  refine V3.out.mono ?_
  rintro e w' ⟨rfl, rfl⟩
  by_cases hy : y < 0
  · have NN : Hid (∀ a : Int, 0 ≤ a → a ≤ 100000 → s.data.toList ≠ txt a) := fun a a0 a1 h => by have := NO.out a a0 a1 h; omega
    go_wp2_with fail
    go_ret2
    exact ⟨rfl, Or.inr ⟨NN.out, rfl⟩⟩
  by_cases hm : m < 0
  · have NN : Hid (∀ a : Int, 0 ≤ a → a ≤ 100000 → s.data.toList ≠ txt a) := fun a a0 a1 h => by have := NO.out a a0 a1 h; omega
    go_wp2_with fail
    go_ret2
    exact ⟨rfl, Or.inr ⟨NN.out, rfl⟩⟩
  by_cases hd : d < 0
  · have NN : Hid (∀ a : Int, 0 ≤ a → a ≤ 100000 → s.data.toList ≠ txt a) := fun a a0 a1 h => by have := NO.out a a0 a1 h; omega
    go_wp2_with fail
    go_ret2
    exact ⟨rfl, Or.inr ⟨NN.out, rfl⟩⟩
  have MD := Lib.hid (mkV_day y m d)
  have TE := Lib.hid (TB2.out (by omega) (by omega) (by omega))
  have TM2 := Lib.hid (TM.out y m d)
  go_wp2_with fail
  refine (rmake_any y m d _).mono ?_
  rintro e w' ⟨rfl, rfl⟩
  by_cases hE : mkE y m d = 0
  · have OK := Lib.hid (TM2.out hE)
    generalize mkV y m d = n at *
    go_wp2_with fail
    go_ret2
    exact ⟨rfl, Or.inl ⟨n, MD.out.1, MD.out.2, by rw [OK.out, TE.out], rfl⟩⟩
  · have NN : Hid (∀ a : Int, 0 ≤ a → a ≤ 100000 → s.data.toList ≠ txt a) := fun a a0 a1 h => hE (NO.out a a0 a1 h).2.2.2
    go_wp2_with fail
    go_ret2
    exact ⟨rfl, Or.inr ⟨NN.out, rfl⟩⟩
theorem rparse_ten (c0 c1 c2 c3 c4 c5 c6 c7 c8 c9 : UInt8) (w : World) :
    Calls Tryd.prog 39 #[.string ⟨#[c0, c1, c2, c3, c4, c5, c6, c7, c8, c9]⟩] w (RPP [c0, c1, c2, c3, c4, c5, c6, c7, c8, c9] w) :=
  rparse_gen ⟨#[c0, c1, c2, c3, c4, c5, c6, c7, c8, c9]⟩ ⟨#[c0, c1, c2, c3]⟩ ⟨#[c5, c6]⟩ ⟨#[c8, c9]⟩ w rfl rfl rfl rfl (Nat.le_refl 4) (show 2 ≤ 4 by decide) (show 2 ≤ 4 by decide)
    (txt_parts c0 c1 c2 c3 c4 c5 c6 c7 c8 c9)
    (fun h4 h7 h1 h2 h3 => by
      have h4' : c4 = 45 := h4
      have h7' : c7 = 45 := h7
      subst h4' h7'
      exact (ten_back c0 c1 c2 c3 c5 c6 c8 c9 h1 h2 h3).symm)
set_option maxHeartbeats 1000000 in
theorem rparse_any (s : ByteArray) (w : World) (hs : s.size ≤ 300) : Calls Tryd.prog 39 #[.string s] w (RPP s.data.toList w) := by
  by_cases hz : s.size = 10
  · obtain ⟨⟨l⟩⟩ := s
    match l, hz with
    | [c0, c1, c2, c3, c4, c5, c6, c7, c8, c9], _ => exact rparse_ten c0 c1 c2 c3 c4 c5 c6 c7 c8 c9 w
  · have NN : Hid (∀ a : Int, 0 ≤ a → a ≤ 100000 → s.data.toList ≠ txt a) := fun a a0 a1 h => by
      apply hz
      have := txt_ten_len a a0 a1
      rw [← h] at this
      simpa using this
    have hb : ((s.size : Int) == 10) = false := by rw [beq_eq_false_iff_ne]; omega
    go_enter Tryd.func39, Tryd.ntmps39
    go_wp2_with fail
    go_ret2
    exact ⟨rfl, Or.inr ⟨NN.out, rfl⟩⟩
end Go.Proofs.YtngbkdnkpolbfaaDoor
