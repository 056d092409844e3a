/- The walk of the law DateTexts. Under the condition that the tables lie in memory as the program lays them. -/
import Derived.Test.YtjebbmnjegndkaaDoorTb
import Derived.Test.YtjebbmnjegndkaaDoorK
namespace Go.Proofs.YtjebbmnjegndkaaDoor
open Go.RowKit
theorem txt_lt (a b : Int) (a0 : 0 ≤ a) (a1 : a ≤ 100000) (b0 : 0 ≤ b) (b1 : b ≤ 100000) : Op.bytesLess (txt a) (txt b) = true ↔ a < b := by
  obtain ⟨y1, y2⟩ := split_yr a a0 a1
  obtain ⟨m1, m2, d1, d2, _⟩ := split_ok a
  have lb := len_bd (spY a) (spM a) m1 m2
  obtain ⟨y1', y2'⟩ := split_yr b b0 b1
  obtain ⟨m1', m2', d1', d2', _⟩ := split_ok b
  have lb' := len_bd (spY b) (spM b) m1' m2'
  rw [txt_ten a a0 a1, txt_ten b b0 b1, ten_less _ _ _ _ _ _ (by omega) (by omega) (by omega) (by omega) (by omega) (by omega)]
  constructor
  · intro h
    rcases Int.lt_trichotomy a b with c | c | c
    · exact c
    · subst c; omega
    · have := lt_lex b a c; omega
  · intro h
    have := lt_lex a b h; omega
theorem txt_inj (a b : Int) (a0 : 0 ≤ a) (a1 : a ≤ 100000) (b0 : 0 ≤ b) (b1 : b ≤ 100000) (h : txt a = txt b) : a = b := by
  have h1 := txt_lt a b a0 a1 b0 b1
  have h2 := txt_lt b a b0 b1 a0 a1
  have h3 := txt_lt a a a0 a1 a0 a1
  rw [← h] at h1 h2
  rcases Int.lt_trichotomy a b with c | c | c
  · have := h3.1 (h1.2 c); omega
  · exact c
  · have := h3.1 (h2.2 c); omega
theorem txt_len (a : Int) (a0 : 0 ≤ a) (a1 : a ≤ 100000) : (txt a).length = 10 := by
  rw [txt_ten a a0 a1]; rfl
theorem parse_own (a : Int) (w : World) (hL : LaidT w) (a0 : 0 ≤ a) (a1 : a ≤ 100000) :
    Calls Tryd.prog 27 #[.string ⟨(txt a).toArray⟩] w fun e w' => e = .returned (.tuple #[.int .i64 a, .int .i64 0]) ∧ Below w.heap.size w w' := by
  have hz : (⟨(txt a).toArray⟩ : ByteArray).size ≤ 40 := by
    show (txt a).toArray.size ≤ 40
    rw [List.size_toArray, txt_len a a0 a1]; omega
  refine (parse_any ⟨(txt a).toArray⟩ w hz hL).mono ?_
  rintro e w' ⟨hb, ⟨b, b0, b1, h, he⟩ | ⟨h, _⟩⟩
  · have h' : txt a = txt b := h
    rw [← txt_inj a b a0 a1 b0 b1 h'] at he
    exact ⟨he, hb⟩
  · exact absurd rfl (h a a0 a1)

set_option maxHeartbeats 4000000 in
set_option maxRecDepth 100000 in
theorem texts_long (a b : Int) (s : ByteArray) (w : World) (hL : LaidT w) (h : 40 < s.size) : Calls Tryd.prog 10 #[.int .i64 a, .int .i64 b, .string s] w (Yes w) := by
  have hi : (40 : Int) < (s.size : Int) := by omega
  go_enter Tryd.func10, Tryd.ntmps10
  go_wp2_with fail
  refine (head_any _ hL.1).mono ?_
  rintro e w1 ⟨rfl, hb1⟩
  go_wp2_with fail
  go_ret
  exact ⟨rfl, hb1⟩
set_option maxHeartbeats 8000000 in
set_option maxRecDepth 100000 in
theorem texts_yy (a b : Int) (s : ByteArray) (w : World) (hL : LaidT w) (h : s.size ≤ 40) (a0 : 0 ≤ a) (a1 : a ≤ 100000) (b0 : 0 ≤ b) (b1 : b ≤ 100000) : Calls Tryd.prog 10 #[.int .i64 a, .int .i64 b, .string s] w (Yes w) := by
  have hi : ¬ (40 : Int) < (s.size : Int) := by omega
  have HL := Lib.hid hL
  clear hL
  have la : ((txt a).length : Int) = 10 := by rw [txt_len a a0 a1]; rfl
  have tl : (Op.bytesLess (txt a) (txt b) == decide (a < b)) = true := by
    rw [beq_iff_eq, Bool.eq_iff_iff, decide_eq_true_eq]; exact txt_lt a b a0 a1 b0 b1
  go_enter Tryd.func10, Tryd.ntmps10
  go_wp2_with fail
  refine (head_any _ HL.out.1).mono ?_
  rintro e w1 ⟨rfl, hb1⟩
  have B1 := Lib.hid hb1
  clear hb1
  go_wp2_with fail
  refine (text_yes a _ (HL.out.keep B1.out).1 a0 a1).mono ?_
  rintro e w2 ⟨rfl, hb2⟩
  have B2 := Lib.hid (B1.out.trans (hb2.mono B1.out.size))
  clear hb2
  go_wp2_with fail
  refine (text_yes b _ (HL.out.keep B2.out).1 b0 b1).mono ?_
  rintro e w3 ⟨rfl, hb3⟩
  have B3 := Lib.hid (B2.out.trans (hb3.mono B2.out.size))
  clear hb3
  go_wp2_with fail
  refine (parse_own a _ (HL.out.keep B3.out) a0 a1).mono ?_
  rintro e w4 ⟨rfl, hb4⟩
  have B4 := Lib.hid (B3.out.trans (hb4.mono B3.out.size))
  clear hb4
  go_wp2_with fail
  refine (parse_any s _ h (HL.out.keep B4.out)).mono ?_
  rintro e w8 ⟨hb8, ⟨c, c0, c1, hc, rfl⟩ | ⟨_, rfl⟩⟩
  · have B8 := Lib.hid (B4.out.trans (hb8.mono B4.out.size))
    have hq : (txt c == s.toList) = true := by rw [ByteArray.toList_eq, hc]; simp
    clear hb8 hc
    go_wp2_with fail
    refine (text_yes c _ (HL.out.keep B8.out).1 c0 c1).mono ?_
    rintro e w9 ⟨rfl, hb9⟩
    have B9 := Lib.hid (B8.out.trans (hb9.mono B8.out.size))
    clear hb9
    go_wp2_with fail
    go_ret
    exact ⟨rfl, B9.out⟩
  · have B8 := Lib.hid (B4.out.trans (hb8.mono B4.out.size))
    clear hb8
    go_wp2_with fail
    go_ret
    exact ⟨rfl, B8.out⟩
set_option maxHeartbeats 8000000 in
set_option maxRecDepth 100000 in
theorem texts_yn (a b : Int) (s : ByteArray) (w : World) (hL : LaidT w) (h : s.size ≤ 40) (a0 : 0 ≤ a) (a1 : a ≤ 100000) (hb : b < 0 ∨ 100000 < b) : Calls Tryd.prog 10 #[.int .i64 a, .int .i64 b, .string s] w (Yes w) := by
  have hi : ¬ (40 : Int) < (s.size : Int) := by omega
  have HL := Lib.hid hL
  clear hL
  have la : ((txt a).length : Int) = 10 := by rw [txt_len a a0 a1]; rfl
  go_enter Tryd.func10, Tryd.ntmps10
  go_wp2_with fail
  refine (head_any _ HL.out.1).mono ?_
  rintro e w1 ⟨rfl, hb1⟩
  have B1 := Lib.hid hb1
  clear hb1
  go_wp2_with fail
  refine (text_yes a _ (HL.out.keep B1.out).1 a0 a1).mono ?_
  rintro e w2 ⟨rfl, hb2⟩
  have B2 := Lib.hid (B1.out.trans (hb2.mono B1.out.size))
  clear hb2
  go_wp2_with fail
  refine (text_no b _ hb).mono ?_
  rintro e w' ⟨rfl, rfl⟩
  go_wp2_with fail
  refine (parse_own a _ (HL.out.keep B2.out) a0 a1).mono ?_
  rintro e w3 ⟨rfl, hb3⟩
  have B3 := Lib.hid (B2.out.trans (hb3.mono B2.out.size))
  clear hb3
  go_wp2_with fail
  refine (parse_any s _ h (HL.out.keep B3.out)).mono ?_
  rintro e w8 ⟨hb8, ⟨c, c0, c1, hc, rfl⟩ | ⟨_, rfl⟩⟩
  · have B8 := Lib.hid (B3.out.trans (hb8.mono B3.out.size))
    have hq : (txt c == s.toList) = true := by rw [ByteArray.toList_eq, hc]; simp
    clear hb8 hc
    go_wp2_with fail
    refine (text_yes c _ (HL.out.keep B8.out).1 c0 c1).mono ?_
    rintro e w9 ⟨rfl, hb9⟩
    have B9 := Lib.hid (B8.out.trans (hb9.mono B8.out.size))
    clear hb9
    go_wp2_with fail
    go_ret
    exact ⟨rfl, B9.out⟩
  · have B8 := Lib.hid (B3.out.trans (hb8.mono B3.out.size))
    clear hb8
    go_wp2_with fail
    go_ret
    exact ⟨rfl, B8.out⟩
set_option maxHeartbeats 8000000 in
set_option maxRecDepth 100000 in
theorem texts_ly (a b : Int) (s : ByteArray) (w : World) (hL : LaidT w) (h : s.size ≤ 40) (ha : a < 0) (b0 : 0 ≤ b) (b1 : b ≤ 100000) : Calls Tryd.prog 10 #[.int .i64 a, .int .i64 b, .string s] w (Yes w) := by
  have hi : ¬ (40 : Int) < (s.size : Int) := by omega
  have HL := Lib.hid hL
  clear hL
  go_enter Tryd.func10, Tryd.ntmps10
  go_wp2_with fail
  refine (head_any _ HL.out.1).mono ?_
  rintro e w1 ⟨rfl, hb1⟩
  have B1 := Lib.hid hb1
  clear hb1
  go_wp2_with fail
  refine (text_no a _ (Or.inl ha)).mono ?_
  rintro e w' ⟨rfl, rfl⟩
  go_wp2_with fail
  refine (text_yes b _ (HL.out.keep B1.out).1 b0 b1).mono ?_
  rintro e w2 ⟨rfl, hb2⟩
  have B2 := Lib.hid (B1.out.trans (hb2.mono B1.out.size))
  clear hb2
  go_wp2_with fail
  refine (parse_any s _ h (HL.out.keep B2.out)).mono ?_
  rintro e w8 ⟨hb8, ⟨c, c0, c1, hc, rfl⟩ | ⟨_, rfl⟩⟩
  · have B8 := Lib.hid (B2.out.trans (hb8.mono B2.out.size))
    have hq : (txt c == s.toList) = true := by rw [ByteArray.toList_eq, hc]; simp
    clear hb8 hc
    go_wp2_with fail
    refine (text_yes c _ (HL.out.keep B8.out).1 c0 c1).mono ?_
    rintro e w9 ⟨rfl, hb9⟩
    have B9 := Lib.hid (B8.out.trans (hb9.mono B8.out.size))
    clear hb9
    go_wp2_with fail
    go_ret
    exact ⟨rfl, B9.out⟩
  · have B8 := Lib.hid (B2.out.trans (hb8.mono B2.out.size))
    clear hb8
    go_wp2_with fail
    go_ret
    exact ⟨rfl, B8.out⟩
set_option maxHeartbeats 8000000 in
set_option maxRecDepth 100000 in
theorem texts_ln (a b : Int) (s : ByteArray) (w : World) (hL : LaidT w) (h : s.size ≤ 40) (ha : a < 0) (hb : b < 0 ∨ 100000 < b) : Calls Tryd.prog 10 #[.int .i64 a, .int .i64 b, .string s] w (Yes w) := by
  have hi : ¬ (40 : Int) < (s.size : Int) := by omega
  have HL := Lib.hid hL
  clear hL
  go_enter Tryd.func10, Tryd.ntmps10
  go_wp2_with fail
  refine (head_any _ HL.out.1).mono ?_
  rintro e w1 ⟨rfl, hb1⟩
  have B1 := Lib.hid hb1
  clear hb1
  go_wp2_with fail
  refine (text_no a _ (Or.inl ha)).mono ?_
  rintro e w' ⟨rfl, rfl⟩
  go_wp2_with fail
  refine (text_no b _ hb).mono ?_
  rintro e w' ⟨rfl, rfl⟩
  go_wp2_with fail
  refine (parse_any s _ h (HL.out.keep B1.out)).mono ?_
  rintro e w8 ⟨hb8, ⟨c, c0, c1, hc, rfl⟩ | ⟨_, rfl⟩⟩
  · have B8 := Lib.hid (B1.out.trans (hb8.mono B1.out.size))
    have hq : (txt c == s.toList) = true := by rw [ByteArray.toList_eq, hc]; simp
    clear hb8 hc
    go_wp2_with fail
    refine (text_yes c _ (HL.out.keep B8.out).1 c0 c1).mono ?_
    rintro e w9 ⟨rfl, hb9⟩
    have B9 := Lib.hid (B8.out.trans (hb9.mono B8.out.size))
    clear hb9
    go_wp2_with fail
    go_ret
    exact ⟨rfl, B9.out⟩
  · have B8 := Lib.hid (B1.out.trans (hb8.mono B1.out.size))
    clear hb8
    go_wp2_with fail
    go_ret
    exact ⟨rfl, B8.out⟩
set_option maxHeartbeats 8000000 in
set_option maxRecDepth 100000 in
theorem texts_gy (a b : Int) (s : ByteArray) (w : World) (hL : LaidT w) (h : s.size ≤ 40) (ha : 100000 < a) (ha0 : 0 ≤ a) (b0 : 0 ≤ b) (b1 : b ≤ 100000) : Calls Tryd.prog 10 #[.int .i64 a, .int .i64 b, .string s] w (Yes w) := by
  have hi : ¬ (40 : Int) < (s.size : Int) := by omega
  have HL := Lib.hid hL
  clear hL
  go_enter Tryd.func10, Tryd.ntmps10
  go_wp2_with fail
  refine (head_any _ HL.out.1).mono ?_
  rintro e w1 ⟨rfl, hb1⟩
  have B1 := Lib.hid hb1
  clear hb1
  go_wp2_with fail
  refine (text_no a _ (Or.inr ha)).mono ?_
  rintro e w' ⟨rfl, rfl⟩
  go_wp2_with fail
  refine (text_yes b _ (HL.out.keep B1.out).1 b0 b1).mono ?_
  rintro e w2 ⟨rfl, hb2⟩
  have B2 := Lib.hid (B1.out.trans (hb2.mono B1.out.size))
  clear hb2
  go_wp2_with fail
  refine (parse_any s _ h (HL.out.keep B2.out)).mono ?_
  rintro e w8 ⟨hb8, ⟨c, c0, c1, hc, rfl⟩ | ⟨_, rfl⟩⟩
  · have B8 := Lib.hid (B2.out.trans (hb8.mono B2.out.size))
    have hq : (txt c == s.toList) = true := by rw [ByteArray.toList_eq, hc]; simp
    clear hb8 hc
    go_wp2_with fail
    refine (text_yes c _ (HL.out.keep B8.out).1 c0 c1).mono ?_
    rintro e w9 ⟨rfl, hb9⟩
    have B9 := Lib.hid (B8.out.trans (hb9.mono B8.out.size))
    clear hb9
    go_wp2_with fail
    go_ret
    exact ⟨rfl, B9.out⟩
  · have B8 := Lib.hid (B2.out.trans (hb8.mono B2.out.size))
    clear hb8
    go_wp2_with fail
    go_ret
    exact ⟨rfl, B8.out⟩
set_option maxHeartbeats 8000000 in
set_option maxRecDepth 100000 in
theorem texts_gn (a b : Int) (s : ByteArray) (w : World) (hL : LaidT w) (h : s.size ≤ 40) (ha : 100000 < a) (ha0 : 0 ≤ a) (hb : b < 0 ∨ 100000 < b) : Calls Tryd.prog 10 #[.int .i64 a, .int .i64 b, .string s] w (Yes w) := by
  have hi : ¬ (40 : Int) < (s.size : Int) := by omega
  have HL := Lib.hid hL
  clear hL
  go_enter Tryd.func10, Tryd.ntmps10
  go_wp2_with fail
  refine (head_any _ HL.out.1).mono ?_
  rintro e w1 ⟨rfl, hb1⟩
  have B1 := Lib.hid hb1
  clear hb1
  go_wp2_with fail
  refine (text_no a _ (Or.inr ha)).mono ?_
  rintro e w' ⟨rfl, rfl⟩
  go_wp2_with fail
  refine (text_no b _ hb).mono ?_
  rintro e w' ⟨rfl, rfl⟩
  go_wp2_with fail
  refine (parse_any s _ h (HL.out.keep B1.out)).mono ?_
  rintro e w8 ⟨hb8, ⟨c, c0, c1, hc, rfl⟩ | ⟨_, rfl⟩⟩
  · have B8 := Lib.hid (B1.out.trans (hb8.mono B1.out.size))
    have hq : (txt c == s.toList) = true := by rw [ByteArray.toList_eq, hc]; simp
    clear hb8 hc
    go_wp2_with fail
    refine (text_yes c _ (HL.out.keep B8.out).1 c0 c1).mono ?_
    rintro e w9 ⟨rfl, hb9⟩
    have B9 := Lib.hid (B8.out.trans (hb9.mono B8.out.size))
    clear hb9
    go_wp2_with fail
    go_ret
    exact ⟨rfl, B9.out⟩
  · have B8 := Lib.hid (B1.out.trans (hb8.mono B1.out.size))
    clear hb8
    go_wp2_with fail
    go_ret
    exact ⟨rfl, B8.out⟩
theorem texts_walk (a b : Int) (s : ByteArray) (w : World) (hL : LaidT w) : Calls Tryd.prog 10 #[.int .i64 a, .int .i64 b, .string s] w (Yes w) := by
  by_cases h : 40 < s.size
  · exact texts_long a b s w hL h
  have h' : s.size ≤ 40 := by omega
  by_cases hb : 0 ≤ b ∧ b ≤ 100000
  · by_cases a0 : 0 ≤ a
    · by_cases a1 : a ≤ 100000
      · exact texts_yy a b s w hL h' a0 a1 hb.1 hb.2
      · exact texts_gy a b s w hL h' (by omega) a0 hb.1 hb.2
    · exact texts_ly a b s w hL h' (by omega) hb.1 hb.2
  · by_cases a0 : 0 ≤ a
    · by_cases a1 : a ≤ 100000
      · exact texts_yn a b s w hL h' a0 a1 (by omega)
      · exact texts_gn a b s w hL h' (by omega) a0 (by omega)
    · exact texts_ln a b s w hL h' (by omega) (by omega)
end Go.Proofs.YtjebbmnjegndkaaDoor
