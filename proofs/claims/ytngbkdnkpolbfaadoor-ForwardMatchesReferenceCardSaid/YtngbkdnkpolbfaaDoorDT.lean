/- The contracts of two and Text. Under the condition that the tables lie in memory as the program lays them. -/
import Derived.Test.YtngbkdnkpolbfaaDoorDA
import Derived.Test.YtngbkdnkpolbfaaDoorShA
import Derived.Lib.AppendIntMem
import Derived.Lib.SmallJoins
namespace Go.Proofs.YtngbkdnkpolbfaaDoor
open Go.RowKit

/-- the tables lie in memory -/
def Laid (w : World) : Prop := Tab w ∧ Lib.TabIs Tryd.prog w "internal/strconv.uint64pow10" .u64 Lib.pow10Tab ∧ 8 ≤ w.heap.size

/-- a number in two digits -/
def two (n : Nat) : List UInt8 := Lib.decDigits (n / 10) ++ Lib.decDigits (n % 10)

theorem str_app (a b : List UInt8) : (⟨(a ++ b).toArray⟩ : ByteArray) = ⟨a.toArray⟩ ++ ⟨b.toArray⟩ := by
  apply ByteArray.ext; simp
theorem dec_one : ∀ n : Nat, n < 10 → (Lib.decDigits n).length ≤ 1 := by decide +kernel
theorem two_len (n : Nat) (h : n < 100) : (two n).length ≤ 2 := by
  have l1 := dec_one (n / 10) (by omega)
  have l2 := dec_one (n % 10) (by omega)
  unfold two; rw [List.length_append]; omega

set_option maxHeartbeats 400000 in
theorem two_any (n : Nat) (w : World) (h : n < 100) :
    Calls Tryd.prog 46 #[.int .i64 n] w fun e w' => e = .returned (.string ⟨(two n).toArray⟩) ∧ w = w' := by
  have l1 := dec_one (n / 10) (by omega)
  have l2 := dec_one (n % 10) (by omega)
  have H := Lib.hid (show two n = Lib.decDigits (n / 10) ++ Lib.decDigits (n % 10) from rfl)
  go_enter Tryd.func46, Tryd.ntmps46
  go_wp2_with fail
  refine (Tryd.strconv_Itoa_small (n / 10) (by omega) _).mono ?_
  rintro e w' ⟨rfl, hw⟩
  subst hw
  go_wp2_with fail
  refine (Tryd.strconv_Itoa_small (n % 10) (by omega) _).mono ?_
  rintro e w' ⟨rfl, hw⟩
  subst hw
  go_wp2_with fail
  go_ret
  exact ⟨by rw [H.out, str_app]; rfl, rfl⟩
theorem two_int (n : Int) (w : World) (h0 : 0 ≤ n) (h : n < 100) :
    Calls Tryd.prog 46 #[.int .i64 n] w fun e w' => e = .returned (.string ⟨(two n.toNat).toArray⟩) ∧ w = w' := by
  obtain ⟨k, rfl⟩ := Int.eq_ofNat_of_zero_le h0
  exact two_any k w (by omega)
theorem itoa_len (y : Int) (h1 : 1800 ≤ y) (h2 : y ≤ 2073) : (Lib.itoa y).length = 4 := by
  have : ∀ k : Nat, k < 274 → (Lib.itoa (1800 + k : Nat)).length = 4 := by decide +kernel
  have e := this (y - 1800).toNat (by omega)
  rwa [show ((1800 + (y - 1800).toNat : Nat) : Int) = y by omega] at e

/-- the text of a day -/
def txt (n : Int) : List UInt8 := Lib.join [Lib.itoa (spY n), two (spM n).toNat, two (spD n).toNat] [45]

set_option maxHeartbeats 1000000 in
theorem text_yes (n : Int) (w : World) (hL : Laid w) (h0 : 0 ≤ n) (h1 : n ≤ 100000) :
    Calls Tryd.prog 26 #[.int .i64 n] w fun e w' => e = .returned (.tuple #[.string ⟨(txt n).toArray⟩, .int .i64 0]) ∧ Below w.heap.size w w' := by
  have HL := Lib.hid hL
  clear hL
  have ⟨y1, y2⟩ := split_yr n h0 h1
  have ⟨m1, m2, d1, d2, _⟩ := split_ok n
  have hl := len_bd (spY n) (spM n) m1 m2
  have H := Lib.hid (show txt n = Lib.join [Lib.itoa (spY n), two (spM n).toNat, two (spD n).toNat] [45] from rfl)
  go_enter Tryd.func26, Tryd.ntmps26
  go_wp2_with fail
  refine (split_yes _ _ h0 h1).mono ?_
  rintro e w' ⟨rfl, rfl⟩
  go_wp2_with fail
  refine (Tryd.strconv_Itoa _ (by omega) (by omega) _ HL.out.2.1).mono ?_
  rintro e w1 ⟨rfl, k, os, hw1⟩
  have hb : Below w.heap.size w w1 := by rw [hw1]; exact Lib.below_grow _ _ (Nat.le_refl _) _ _
  clear hw1
  have hz := hb.size
  go_wp2_with fail
  refine (two_int _ _ (by omega) (by omega)).mono ?_
  rintro e w2 ⟨rfl, rfl⟩
  go_wp2_with fail
  refine (two_int _ _ (by omega) (by omega)).mono ?_
  rintro e w2 ⟨rfl, rfl⟩
  have L1 := Lib.hid (itoa_len _ y1 y2)
  have L2 := two_len (spM n).toNat (by omega)
  have L3 := two_len (spD n).toNat (by omega)
  generalize Lib.itoa (spY n) = a1 at *
  generalize two (spM n).toNat = a2 at *
  generalize two (spD n).toNat = a3 at *
  go_wp2_with fail
  refine (Tryd.strings_Join w1.heap.size 0 3 [⟨a1.toArray⟩, ⟨a2.toArray⟩, ⟨a3.toArray⟩] ⟨#[45]⟩ _ ?_ ?_ ?_ ?_ ?_).mono ?_
  · intro j x hj
    match j, hj with
    | 0, hj => simp at hj; subst hj; simp
    | 1, hj => simp at hj; subst hj; simp
    | 2, hj => simp at hj; subst hj; simp
    | j + 3, hj => simp at hj
  · simp
  · simp
  · simp
  · have := L1.out
    simp [Lib.join]; omega
  · rintro e w2 ⟨rfl, hb2⟩
    go_wp2_with fail
    go_ret2
    refine ⟨by rw [H.out]; rfl, ?_⟩
    exact (hb.alloc hz _).trans (hb2.mono (by simp; omega))

set_option maxHeartbeats 400000 in
theorem text_no (n : Int) (w : World) (h : n < 0 ∨ 100000 < n) :
    Calls Tryd.prog 26 #[.int .i64 n] w fun e w' => e = .returned (.tuple #[.string ⟨#[]⟩, .int .i64 1]) ∧ w = w' := by
  go_enter Tryd.func26, Tryd.ntmps26
  go_wp2_with fail
  refine (split_no _ _ h).mono ?_
  rintro e w' ⟨rfl, rfl⟩
  go_wp2_with fail
  go_ret2
  exact ⟨rfl, rfl⟩

/-- the tables stay -/
theorem Laid.keep {w w' : World} (h : Laid w) (hb : Below w.heap.size w w') : Laid w' := by
  obtain ⟨h1, h2, h3⟩ := h
  refine ⟨fun k hk => ?_, ?_, Nat.le_trans h3 hb.size⟩
  · rw [hb.cell (p := ⟨0, k, none⟩) (by simp; omega)]; exact h1 k hk
  · exact Joins.tab_stays (show Tryd.prog.globalNamed "internal/strconv.uint64pow10" = some 4 by kernel_rfl) h2 hb (Nat.le_refl _)
end Go.Proofs.YtngbkdnkpolbfaaDoor
