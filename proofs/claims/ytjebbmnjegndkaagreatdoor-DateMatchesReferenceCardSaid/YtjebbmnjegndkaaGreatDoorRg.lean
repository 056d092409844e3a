/- The contract of the reference's Parse. Under no condition. -/
import Derived.Test.YtjebbmnjegndkaaGreatDoorRf
import Derived.Test.YtjebbmnjegndkaaGreatDoorTb
namespace Go.Proofs.YtjebbmnjegndkaaGreatDoor
open Go.RowKit
theorem dg_nat : ∀ k : Nat, k < 10 → (dg k).toNat = 48 + k := by decide
theorem dg_is (k : Nat) (h : k < 10) : isD (dg k) = true := by
  unfold isD; rw [dg_nat k h]; simp; omega
theorem dg_of (c : UInt8) (n : Nat) (h : isD c = true) (hn : n = c.toNat - 48) : dg n = c := by
  simp [isD] at h
  subst hn
  unfold dg
  rw [show 48 + (c.toNat - 48) = c.toNat by omega]
  exact UInt8.ofNat_toNat
theorem val4 (y : Nat) (h : y < 10000) : valL [dg (y / 1000), dg (y / 100 % 10), dg (y / 10 % 10), dg (y % 10)] = y := by
  unfold valL
  rw [if_pos (by simp [dg_is (y / 1000) (by omega), dg_is (y / 100 % 10) (by omega), dg_is (y / 10 % 10) (by omega), dg_is (y % 10) (by omega)])]
  simp only [vl, List.foldl_cons, List.foldl_nil, dg_nat (y / 1000) (by omega), dg_nat (y / 100 % 10) (by omega), dg_nat (y / 10 % 10) (by omega), dg_nat (y % 10) (by omega)]
  omega
theorem val2 (y : Nat) (h : y < 100) : valL [dg (y / 10), dg (y % 10)] = y := by
  unfold valL
  rw [if_pos (by simp [dg_is (y / 10) (by omega), dg_is (y % 10) (by omega)])]
  simp only [vl, List.foldl_cons, List.foldl_nil, dg_nat (y / 10) (by omega), dg_nat (y % 10) (by omega)]
  omega
/-- the numbers of ten bytes, and the bytes of the numbers -/
theorem ten_back (c0 c1 c2 c3 c5 c6 c8 c9 : UInt8) (h1 : 0 ≤ valL [c0, c1, c2, c3]) (h2 : 0 ≤ valL [c5, c6]) (h3 : 0 ≤ valL [c8, c9]) :
    ten (valL [c0, c1, c2, c3]).toNat (valL [c5, c6]).toNat (valL [c8, c9]).toNat = [c0, c1, c2, c3, 45, c5, c6, 45, c8, c9] := by
  have a1 : [c0, c1, c2, c3].all isD = true := by unfold valL at h1; split at h1; assumption; omega
  have a2 : [c5, c6].all isD = true := by unfold valL at h2; split at h2; assumption; omega
  have a3 : [c8, c9].all isD = true := by unfold valL at h3; split at h3; assumption; omega
  have e1 : valL [c0, c1, c2, c3] = vl [c0, c1, c2, c3] := by unfold valL; rw [if_pos a1]
  have e2 : valL [c5, c6] = vl [c5, c6] := by unfold valL; rw [if_pos a2]
  have e3 : valL [c8, c9] = vl [c8, c9] := by unfold valL; rw [if_pos a3]
  rw [e1, e2, e3]
  simp only [List.all_cons, List.all_nil, Bool.and_true, Bool.and_eq_true] at a1 a2 a3
  obtain ⟨d0, d1, d2, d3⟩ := a1
  obtain ⟨d5, d6⟩ := a2
  obtain ⟨d8, d9⟩ := a3
  have f : ∀ c, isD c = true → 48 ≤ c.toNat ∧ c.toNat ≤ 57 := fun c h => by simpa [isD] using h
  have f0 := f _ d0; have f1 := f _ d1; have f2 := f _ d2; have f3 := f _ d3; have f5 := f _ d5; have f6 := f _ d6; have f8 := f _ d8; have f9 := f _ d9
  unfold ten
  simp only [vl, List.foldl_cons, List.foldl_nil]
  rw [dg_of c0 _ d0 (by omega), dg_of c1 _ d1 (by omega), dg_of c2 _ d2 (by omega), dg_of c3 _ d3 (by omega), dg_of c5 _ d5 (by omega), dg_of c6 _ d6 (by omega), dg_of c8 _ d8 (by omega), dg_of c9 _ d9 (by omega)]
theorem txt_parts (c0 c1 c2 c3 c4 c5 c6 c7 c8 c9 : UInt8) (a : Int) (a0 : 0 ≤ a) (a1 : a ≤ 100000) (h : [c0, c1, c2, c3, c4, c5, c6, c7, c8, c9] = txt a) :
    c4 = 45 ∧ c7 = 45 ∧ valL [c0, c1, c2, c3] = spY a ∧ valL [c5, c6] = spM a ∧ valL [c8, c9] = spD a := by
  obtain ⟨y1, y2⟩ := split_yr a a0 a1
  obtain ⟨m1, m2, d1, d2, _⟩ := split_ok a
  have lb := len_bd (spY a) (spM a) m1 m2
  rw [txt_ten a a0 a1] at h
  unfold ten at h
  simp only [List.cons.injEq, and_true] at h
  obtain ⟨rfl, rfl, rfl, rfl, rfl, rfl, rfl, rfl, rfl, rfl⟩ := h
  rw [val4 _ (by omega), val2 _ (by omega), val2 _ (by omega)]
  refine ⟨rfl, rfl, ?_, ?_, ?_⟩ <;> omega
theorem txt_made (y m d : Int) (h : mkE y m d = 0) (hm : 0 ≤ mkV y m d ∧ mkV y m d ≤ 100000) : txt (mkV y m d) = ten y.toNat m.toNat d.toNat := by
  obtain ⟨e, y1, y2, m1, m2, d1, d2, n0, n1⟩ := mk_ok y m d h
  rw [txt_ten _ hm.1 hm.2, e]
  obtain ⟨s1, s2, s3⟩ := split_num y m d m1 m2 d1 d2
  rw [s1, s2, s3]
/-- what the reference's Parse leaves -/
def RPP (l : List UInt8) (w : World) (e : Ending) (w' : World) : Prop :=
  w = w' ∧ ((∃ a : Int, 0 ≤ a ∧ a ≤ 100000 ∧ l = txt a ∧ e = .returned (.tuple #[.int .i64 a, .int .i64 0])) ∨ ((∀ a : Int, 0 ≤ a → a ≤ 100000 → l ≠ txt a) ∧ e = .returned (.tuple #[.int .i64 0, .int .i64 5])))
theorem u8_ne (c : UInt8) (h : c ≠ 45) : ((c.toNat : Int) == 45) = false := by
  rw [beq_eq_false_iff_ne]
  intro e
  apply h
  apply UInt8.toNat_inj.1
  show c.toNat = 45
  omega
set_option maxHeartbeats 4000000 in
set_option maxRecDepth 100000 in
theorem rparse_gen (s p1 p2 p3 : ByteArray) (w : World) (hz : s.size = 10) (x1 : s.extract 0 4 = p1) (x2 : s.extract 5 7 = p2) (x3 : s.extract 8 10 = p3)
    (z1 : p1.size ≤ 4) (z2 : p2.size ≤ 4) (z3 : p3.size ≤ 4)
    (TP : ∀ a : Int, 0 ≤ a → a ≤ 100000 → s.data.toList = txt a → s[4] = 45 ∧ s[7] = 45 ∧ valL p1.data.toList = spY a ∧ valL p2.data.toList = spM a ∧ valL p3.data.toList = spD a)
    (TB : s[4] = 45 → s[7] = 45 → 0 ≤ valL p1.data.toList → 0 ≤ valL p2.data.toList → 0 ≤ valL p3.data.toList → s.data.toList = ten (valL p1.data.toList).toNat (valL p2.data.toList).toNat (valL p3.data.toList).toNat) :
    Calls Tryz.prog 16 #[.string s] w (RPP s.data.toList w) := by
  have TP := Lib.hid TP
  have TB := Lib.hid TB
  have V1 := Lib.hid (rvalue_any p1 w z1)
  have V2 := Lib.hid (rvalue_any p2 w z2)
  have V3 := Lib.hid (rvalue_any p3 w z3)
  have hzi : (s.size : Int) = 10 := by omega
  by_cases h4 : s[4] = 45
  case neg =>
    have b4 := u8_ne s[4] h4
    have NO : Hid (∀ a : Int, 0 ≤ a → a ≤ 100000 → s.data.toList ≠ txt a) := fun a a0 a1 h => h4 (TP.out a a0 a1 h).1
    clear TP TB
    go_enter Tryz.func16, Tryz.ntmps16
    go_wp2_with fail
    go_ret2
    exact ⟨rfl, Or.inr ⟨NO.out, rfl⟩⟩
  have b4 : (s[4].toNat : Int) = 45 := by rw [h4]; rfl
  by_cases h7 : s[7] = 45
  case neg =>
    have b7 := u8_ne s[7] h7
    have NO : Hid (∀ a : Int, 0 ≤ a → a ≤ 100000 → s.data.toList ≠ txt a) := fun a a0 a1 h => h7 (TP.out a a0 a1 h).2.1
    clear TP TB
    go_enter Tryz.func16, Tryz.ntmps16
    go_wp2_with fail
    go_ret2
    exact ⟨rfl, Or.inr ⟨NO.out, rfl⟩⟩
  have b7 : (s[7].toNat : Int) = 45 := by rw [h7]; rfl
  have TB2 := Lib.hid (TB.out h4 h7)
  have NO : Hid (∀ a : Int, 0 ≤ a → a ≤ 100000 → s.data.toList = txt a → 0 ≤ valL p1.data.toList ∧ 0 ≤ valL p2.data.toList ∧ 0 ≤ valL p3.data.toList ∧ mkE (valL p1.data.toList) (valL p2.data.toList) (valL p3.data.toList) = 0) := fun a a0 a1 h => by
    obtain ⟨_, _, e1, e2, e3⟩ := TP.out a a0 a1 h
    obtain ⟨y1, y2⟩ := split_yr a a0 a1
    obtain ⟨m1, m2, d1, d2, _⟩ := split_ok a
    rw [e1, e2, e3]
    exact ⟨by omega, by omega, by omega, (mk_split a a0 a1).1⟩
  have TM : Hid (∀ y m d, mkE y m d = 0 → txt (mkV y m d) = ten y.toNat m.toNat d.toNat) := fun y m d h => txt_made y m d h (mkV_day y m d)
  clear TP TB
  generalize valL p1.data.toList = y at *
  generalize valL p2.data.toList = m at *
  generalize valL p3.data.toList = d at *
  go_enter Tryz.func16, Tryz.ntmps16
  go_wp2_with fail
  refine V1.out.mono ?_
  rintro e w' ⟨rfl, rfl⟩
  go_wp2_with fail
  refine V2.out.mono ?_
  rintro e w' ⟨rfl, rfl⟩
  go_wp2_with fail
  refine V3.out.mono ?_
  rintro e w' ⟨rfl, rfl⟩
  by_cases hy : y < 0
  · have NN : Hid (∀ a : Int, 0 ≤ a → a ≤ 100000 → s.data.toList ≠ txt a) := fun a a0 a1 h => by have := NO.out a a0 a1 h; omega
    go_wp2_with fail
    go_ret2
    exact ⟨rfl, Or.inr ⟨NN.out, rfl⟩⟩
  by_cases hm : m < 0
  · have NN : Hid (∀ a : Int, 0 ≤ a → a ≤ 100000 → s.data.toList ≠ txt a) := fun a a0 a1 h => by have := NO.out a a0 a1 h; omega
    go_wp2_with fail
    go_ret2
    exact ⟨rfl, Or.inr ⟨NN.out, rfl⟩⟩
  by_cases hd : d < 0
  · have NN : Hid (∀ a : Int, 0 ≤ a → a ≤ 100000 → s.data.toList ≠ txt a) := fun a a0 a1 h => by have := NO.out a a0 a1 h; omega
    go_wp2_with fail
    go_ret2
    exact ⟨rfl, Or.inr ⟨NN.out, rfl⟩⟩
  have MD := Lib.hid (mkV_day y m d)
  have TE := Lib.hid (TB2.out (by omega) (by omega) (by omega))
  have TM2 := Lib.hid (TM.out y m d)
  go_wp2_with fail
  refine (rmake_any y m d _).mono ?_
  rintro e w' ⟨rfl, rfl⟩
  by_cases hE : mkE y m d = 0
  · have OK := Lib.hid (TM2.out hE)
    generalize mkV y m d = n at *
    go_wp2_with fail
    go_ret2
    exact ⟨rfl, Or.inl ⟨n, MD.out.1, MD.out.2, by rw [OK.out, TE.out], rfl⟩⟩
  · have NN : Hid (∀ a : Int, 0 ≤ a → a ≤ 100000 → s.data.toList ≠ txt a) := fun a a0 a1 h => hE (NO.out a a0 a1 h).2.2.2
    go_wp2_with fail
    go_ret2
    exact ⟨rfl, Or.inr ⟨NN.out, rfl⟩⟩
theorem rparse_ten (c0 c1 c2 c3 c4 c5 c6 c7 c8 c9 : UInt8) (w : World) :
    Calls Tryz.prog 16 #[.string ⟨#[c0, c1, c2, c3, c4, c5, c6, c7, c8, c9]⟩] w (RPP [c0, c1, c2, c3, c4, c5, c6, c7, c8, c9] w) :=
  rparse_gen ⟨#[c0, c1, c2, c3, c4, c5, c6, c7, c8, c9]⟩ ⟨#[c0, c1, c2, c3]⟩ ⟨#[c5, c6]⟩ ⟨#[c8, c9]⟩ w rfl rfl rfl rfl (Nat.le_refl 4) (show 2 ≤ 4 by decide) (show 2 ≤ 4 by decide)
    (txt_parts c0 c1 c2 c3 c4 c5 c6 c7 c8 c9)
    (fun h4 h7 h1 h2 h3 => by
      have h4' : c4 = 45 := h4
      have h7' : c7 = 45 := h7
      subst h4' h7'
      exact (ten_back c0 c1 c2 c3 c5 c6 c8 c9 h1 h2 h3).symm)
theorem txt_ten_len (a : Int) (a0 : 0 ≤ a) (a1 : a ≤ 100000) : (txt a).length = 10 := by
  rw [txt_ten a a0 a1]; rfl
set_option maxHeartbeats 1000000 in
theorem rparse_any (s : ByteArray) (w : World) (hs : s.size ≤ 40) : Calls Tryz.prog 16 #[.string s] w (RPP s.data.toList w) := by
  by_cases hz : s.size = 10
  · obtain ⟨⟨l⟩⟩ := s
    match l, hz with
    | [c0, c1, c2, c3, c4, c5, c6, c7, c8, c9], _ => exact rparse_ten c0 c1 c2 c3 c4 c5 c6 c7 c8 c9 w
  · have NN : Hid (∀ a : Int, 0 ≤ a → a ≤ 100000 → s.data.toList ≠ txt a) := fun a a0 a1 h => by
      apply hz
      have := txt_ten_len a a0 a1
      rw [← h] at this
      simpa using this
    have hb : ((s.size : Int) == 10) = false := by rw [beq_eq_false_iff_ne]; omega
    go_enter Tryz.func16, Tryz.ntmps16
    go_wp2_with fail
    go_ret2
    exact ⟨rfl, Or.inr ⟨NN.out, rfl⟩⟩
end Go.Proofs.YtjebbmnjegndkaaGreatDoor
