/- The walk of the law DateMatchesReference. Under the condition that the tables lie in memory as the program lays them. -/
import Derived.Test.YtjebbmnjegndkaaGreatDoorRg
import Derived.Test.YtjebbmnjegndkaaGreatDoorK
namespace Go.Proofs.YtjebbmnjegndkaaGreatDoor
open Go.RowKit
theorem txt_lt (a b : Int) (a0 : 0 ≤ a) (a1 : a ≤ 100000) (b0 : 0 ≤ b) (b1 : b ≤ 100000) : Op.bytesLess (txt a) (txt b) = true ↔ a < b := by
  obtain ⟨y1, y2⟩ := split_yr a a0 a1
  obtain ⟨m1, m2, d1, d2, _⟩ := split_ok a
  have lb := len_bd (spY a) (spM a) m1 m2
  obtain ⟨y1', y2'⟩ := split_yr b b0 b1
  obtain ⟨m1', m2', d1', d2', _⟩ := split_ok b
  have lb' := len_bd (spY b) (spM b) m1' m2'
  rw [txt_ten a a0 a1, txt_ten b b0 b1, ten_less _ _ _ _ _ _ (by omega) (by omega) (by omega) (by omega) (by omega) (by omega)]
  constructor
  · intro h
    rcases Int.lt_trichotomy a b with c | c | c
    · exact c
    · subst c; omega
    · have := lt_lex b a c; omega
  · intro h
    have := lt_lex a b h; omega
theorem txt_inj (a b : Int) (a0 : 0 ≤ a) (a1 : a ≤ 100000) (b0 : 0 ≤ b) (b1 : b ≤ 100000) (h : txt a = txt b) : a = b := by
  have h1 := txt_lt a b a0 a1 b0 b1
  have h2 := txt_lt b a b0 b1 a0 a1
  have h3 := txt_lt a a a0 a1 a0 a1
  rw [← h] at h1 h2
  rcases Int.lt_trichotomy a b with c | c | c
  · have := h3.1 (h1.2 c); omega
  · exact c
  · have := h3.1 (h2.2 c); omega
set_option maxHeartbeats 4000000 in
set_option maxRecDepth 100000 in
theorem match_long (y m d day n : Int) (s : ByteArray) (w : World) (hL : LaidT w) (h : 40 < s.size) : Calls Tryz.prog 3 #[.int .i64 y, .int .i64 m, .int .i64 d, .int .i64 day, .int .i64 n, .string s] w (Yes w) := by
  have hi : (40 : Int) < (s.size : Int) := by omega
  go_enter Tryz.func3, Tryz.ntmps3
  go_wp2_with fail
  refine (head_any _ hL.1).mono ?_
  rintro e w1 ⟨rfl, hb1⟩
  go_wp2_with fail
  go_ret
  exact ⟨rfl, hb1⟩
set_option maxHeartbeats 8000000 in
set_option maxRecDepth 100000 in
theorem match_y (y m d day n : Int) (s : ByteArray) (w : World) (hL : LaidT w) (h : s.size ≤ 40) (d0 : 0 ≤ day) (d1 : day ≤ 100000) : Calls Tryz.prog 3 #[.int .i64 y, .int .i64 m, .int .i64 d, .int .i64 day, .int .i64 n, .string s] w (Yes w) := by
  have hi : ¬ (40 : Int) < (s.size : Int) := by omega
  have HL := Lib.hid hL
  clear hL
  have HM := Lib.hid (fun w hT => make_any y m d w hT)
  have HR := Lib.hid (fun w => rmake_any y m d w)
  generalize mkV y m d = MV at *
  generalize mkE y m d = ME at *
  have HS := Lib.hid (fun w => split_yes day w d0 d1)
  have HSr := Lib.hid (fun w => rsplit_yes day w d0 d1)
  have HO := Lib.hid (fun w hT => months_yes day n w hT d0 d1)
  have HOr := Lib.hid (fun w => rmonths_yes day n w d0 d1)
  have HW := Lib.hid (fun w => week_yes day w d0 d1)
  have HWr := Lib.hid (fun w => rweek_yes day w d0 d1)
  have HX := Lib.hid (fun w hT => text_yes day w hT d0 d1)
  have HXr := Lib.hid (fun w => rtext_yes day w d0 d1)
  generalize spY day = SY at *
  generalize spM day = SM at *
  generalize spD day = SD at *
  generalize moV day n = OV at *
  generalize moE day n = OE at *
  generalize (day + 2) % 7 = WD at *
  generalize txt day = TX at *
  go_enter Tryz.func3, Tryz.ntmps3
  go_wp2_with fail
  refine (head_any _ HL.out.1).mono ?_
  rintro e w1 ⟨rfl, hb1⟩
  have B1 := Lib.hid hb1
  clear hb1
  go_wp2_with fail
  refine (HM.out _ (HL.out.keep B1.out).1.1).mono ?_
  rintro e w' ⟨rfl, rfl⟩
  go_wp2_with fail
  refine (HR.out _).mono ?_
  rintro e w' ⟨rfl, rfl⟩
  go_wp2_with fail
  refine (HS.out _).mono ?_
  rintro e w' ⟨rfl, rfl⟩
  go_wp2_with fail
  refine (HSr.out _).mono ?_
  rintro e w' ⟨rfl, rfl⟩
  go_wp2_with fail
  refine (HW.out _).mono ?_
  rintro e w' ⟨rfl, rfl⟩
  go_wp2_with fail
  refine (HWr.out _).mono ?_
  rintro e w' ⟨rfl, rfl⟩
  go_wp2_with fail
  refine (HO.out _ (HL.out.keep B1.out).1.1).mono ?_
  rintro e w' ⟨rfl, rfl⟩
  go_wp2_with fail
  refine (HOr.out _).mono ?_
  rintro e w' ⟨rfl, rfl⟩
  go_wp2_with fail
  refine (HX.out _ (HL.out.keep B1.out).1).mono ?_
  rintro e w2 ⟨rfl, hb2⟩
  have B2 := Lib.hid (B1.out.trans (hb2.mono B1.out.size))
  clear hb2
  go_wp2_with fail
  refine (HXr.out _).mono ?_
  rintro e w' ⟨rfl, rfl⟩
  go_wp2_with fail
  refine (parse_any s _ h (HL.out.keep B2.out)).mono ?_
  rintro e w3 ⟨hb3, hp⟩
  have B3 := Lib.hid (B2.out.trans (hb3.mono B2.out.size))
  clear hb3
  rcases hp with ⟨a, a0, a1, ha, rfl⟩ | ⟨hno, rfl⟩
  · have HA := Lib.hid ha
    clear ha
    go_wp2_with fail
    refine (rparse_any s _ h).mono ?_
    rintro e w4 ⟨rfl, hq⟩
    rcases hq with ⟨b, b0, b1, hb, rfl⟩ | ⟨hno, rfl⟩
    · obtain rfl : a = b := txt_inj a b a0 a1 b0 b1 (HA.out.symm.trans hb)
      clear hb
      go_wp2_with fail
      go_ret
      exact ⟨rfl, B3.out⟩
    · exact absurd HA.out (hno a a0 a1)
  · have HN := Lib.hid hno
    clear hno
    go_wp2_with fail
    refine (rparse_any s _ h).mono ?_
    rintro e w4 ⟨rfl, hq⟩
    rcases hq with ⟨b, b0, b1, hb, rfl⟩ | ⟨hno, rfl⟩
    · exact absurd hb (HN.out b b0 b1)
    · clear hno
      go_wp2_with fail
      go_ret
      exact ⟨rfl, B3.out⟩
set_option maxHeartbeats 8000000 in
set_option maxRecDepth 100000 in
theorem match_n (y m d day n : Int) (s : ByteArray) (w : World) (hL : LaidT w) (h : s.size ≤ 40) (hd : day < 0 ∨ 100000 < day) : Calls Tryz.prog 3 #[.int .i64 y, .int .i64 m, .int .i64 d, .int .i64 day, .int .i64 n, .string s] w (Yes w) := by
  have hi : ¬ (40 : Int) < (s.size : Int) := by omega
  have HL := Lib.hid hL
  clear hL
  have HM := Lib.hid (fun w hT => make_any y m d w hT)
  have HR := Lib.hid (fun w => rmake_any y m d w)
  generalize mkV y m d = MV at *
  generalize mkE y m d = ME at *
  have HS := Lib.hid (fun w => split_no day w hd)
  have HSr := Lib.hid (fun w => rsplit_no day w hd)
  have HO := Lib.hid (fun w (_ : Tab w) => months_no day n w hd)
  have HOr := Lib.hid (fun w => rmonths_no day n w hd)
  have HW := Lib.hid (fun w => week_no day w hd)
  have HWr := Lib.hid (fun w => rweek_no day w hd)
  have HX := Lib.hid (fun w (_ : Laid w) => text_no day w hd)
  have HXr := Lib.hid (fun w => rtext_no day w hd)
  go_enter Tryz.func3, Tryz.ntmps3
  go_wp2_with fail
  refine (head_any _ HL.out.1).mono ?_
  rintro e w1 ⟨rfl, hb1⟩
  have B1 := Lib.hid hb1
  clear hb1
  go_wp2_with fail
  refine (HM.out _ (HL.out.keep B1.out).1.1).mono ?_
  rintro e w' ⟨rfl, rfl⟩
  go_wp2_with fail
  refine (HR.out _).mono ?_
  rintro e w' ⟨rfl, rfl⟩
  go_wp2_with fail
  refine (HS.out _).mono ?_
  rintro e w' ⟨rfl, rfl⟩
  go_wp2_with fail
  refine (HSr.out _).mono ?_
  rintro e w' ⟨rfl, rfl⟩
  go_wp2_with fail
  refine (HW.out _).mono ?_
  rintro e w' ⟨rfl, rfl⟩
  go_wp2_with fail
  refine (HWr.out _).mono ?_
  rintro e w' ⟨rfl, rfl⟩
  go_wp2_with fail
  refine (HO.out _ (HL.out.keep B1.out).1.1).mono ?_
  rintro e w' ⟨rfl, rfl⟩
  go_wp2_with fail
  refine (HOr.out _).mono ?_
  rintro e w' ⟨rfl, rfl⟩
  go_wp2_with fail
  refine (HX.out _ (HL.out.keep B1.out).1).mono ?_
  rintro e w2 ⟨rfl, rfl⟩
  have B2 := B1
  go_wp2_with fail
  refine (HXr.out _).mono ?_
  rintro e w' ⟨rfl, rfl⟩
  go_wp2_with fail
  refine (parse_any s _ h (HL.out.keep B2.out)).mono ?_
  rintro e w3 ⟨hb3, hp⟩
  have B3 := Lib.hid (B2.out.trans (hb3.mono B2.out.size))
  clear hb3
  rcases hp with ⟨a, a0, a1, ha, rfl⟩ | ⟨hno, rfl⟩
  · have HA := Lib.hid ha
    clear ha
    go_wp2_with fail
    refine (rparse_any s _ h).mono ?_
    rintro e w4 ⟨rfl, hq⟩
    rcases hq with ⟨b, b0, b1, hb, rfl⟩ | ⟨hno, rfl⟩
    · obtain rfl : a = b := txt_inj a b a0 a1 b0 b1 (HA.out.symm.trans hb)
      clear hb
      go_wp2_with fail
      go_ret
      exact ⟨rfl, B3.out⟩
    · exact absurd HA.out (hno a a0 a1)
  · have HN := Lib.hid hno
    clear hno
    go_wp2_with fail
    refine (rparse_any s _ h).mono ?_
    rintro e w4 ⟨rfl, hq⟩
    rcases hq with ⟨b, b0, b1, hb, rfl⟩ | ⟨hno, rfl⟩
    · exact absurd hb (HN.out b b0 b1)
    · clear hno
      go_wp2_with fail
      go_ret
      exact ⟨rfl, B3.out⟩
theorem match_walk (y m d day n : Int) (s : ByteArray) (w : World) (hL : LaidT w) : Calls Tryz.prog 3 #[.int .i64 y, .int .i64 m, .int .i64 d, .int .i64 day, .int .i64 n, .string s] w (Yes w) := by
  by_cases h : 40 < s.size
  · exact match_long y m d day n s w hL h
  · by_cases hd : 0 ≤ day ∧ day ≤ 100000
    · exact match_y y m d day n s w hL (by omega) hd.1 hd.2
    · exact match_n y m d day n s w hL (by omega) (by omega)
end Go.Proofs.YtjebbmnjegndkaaGreatDoor
