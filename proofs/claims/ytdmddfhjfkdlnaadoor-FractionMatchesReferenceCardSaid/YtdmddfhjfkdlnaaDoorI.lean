/- The contracts of Text and Parse. Under the condition that the tables and the library's variables lie in memory as the program lays them. -/
import Derived.Test.YtdmddfhjfkdlnaaDoorGa
import Derived.Test.YtdmddfhjfkdlnaaDoorShB
import Derived.Test.YtdmddfhjfkdlnaaDoorPt
import Derived.Lib.SmallJoins
namespace Go.Proofs.YtdmddfhjfkdlnaaDoor
open Go.RowKit

/-- an error variable of the library's -/
def ErrAt (w : World) (g : Nat) : Prop := ∃ ev, w.cell? ⟨g, 0, none⟩ = some ev ∧ (ev = .nilIface ∨ ∃ te pe, ev = .iface te pe)
/-- the tables and the library's variables lie in memory -/
def Laid (w : World) : Prop := Lib.TabIs Tryd.prog w "internal/strconv.uint64pow10" .u64 Lib.pow10Tab ∧ 7 ≤ w.heap.size ∧ ErrAt w 3 ∧ ErrAt w 4 ∧ ∃ m : Int, w.cell? ⟨2, 0, none⟩ = some (.int .i64 m)
theorem Laid.keep {w w' : World} (h : Laid w) (hb : Below w.heap.size w w') : Laid w' := by
  obtain ⟨h0, hz, ⟨e1, c1, d1⟩, ⟨e2, c2, d2⟩, m, c3⟩ := h
  exact ⟨Joins.tab_stays (show Tryd.prog.globalNamed "internal/strconv.uint64pow10" = some 5 by kernel_rfl) h0 hb (Nat.le_refl _), Nat.le_trans hz hb.size, ⟨e1, cell_later hb c1, d1⟩, ⟨e2, cell_later hb c2, d2⟩, m, cell_later hb c3⟩
theorem str_app (a b : List UInt8) : (⟨(a ++ b).toArray⟩ : ByteArray) = ⟨a.toArray⟩ ++ ⟨b.toArray⟩ := by
  apply ByteArray.ext; simp
theorem itoa_gr (n : Int) (w : World) (hL : Laid w) (h0 : -9223372036854775808 ≤ n) (h1 : n ≤ 9223372036854775807) :
    Calls Tryd.prog 44 #[.int .i64 n] w fun e w' => e = .returned (.string ⟨(Lib.itoa n).toArray⟩) ∧ Gr w w' := Tryd.strconv_Itoa n h0 h1 w hL.1

set_option maxHeartbeats 1000000 in
theorem text_no (a b : Int) (w : World) (hv : vld a b = false) (h0 : -9223372036854775808 ≤ a) (h1 : a ≤ 9223372036854775807) (k0 : -9223372036854775808 ≤ b) (k1 : b ≤ 9223372036854775807) :
    Calls Tryd.prog 22 #[.agg #[.int .i64 a, .int .i64 b]] w fun e w' => e = .returned (.tuple #[.string ⟨#[]⟩, .int .i64 1]) ∧ Gr w w' := by
  have HV1 := Lib.hid (fun W => valid_at hv W h0 h1 k0 k1)
  clear hv
  go_enter Tryd.func22, Tryd.ntmps22
  go_wp2_with fail
  refine (HV1.out _).mono ?_
  rintro e w3 ⟨rfl, hg⟩
  have HG := Lib.hid ((Gr.one _ _).trans hg)
  clear hg
  go_wp2_with fail
  go_ret2
  exact ⟨rfl, HG.out⟩
set_option maxHeartbeats 1000000 in
theorem text_yes (a b : Int) (w : World) (hL : Laid w) (hv : vld a b = true) :
    Calls Tryd.prog 22 #[.agg #[.int .i64 a, .int .i64 b]] w fun e w' => e = .returned (.tuple #[.string ⟨(txt a b).toArray⟩, .int .i64 0]) ∧ Gr w w' := by
  obtain ⟨v1, v2, v3, _⟩ := vld_iff.1 hv
  have HV1 := Lib.hid (fun W => valid_at hv W (by omega) (by omega) (by omega) (by omega))
  have HL := Lib.hid hL
  clear hL hv
  by_cases hb : 1 < b
  · have H := Lib.hid (show (⟨(txt a b).toArray⟩ : ByteArray) = ⟨(Lib.itoa a).toArray⟩ ++ (⟨#[47]⟩ ++ ⟨(Lib.itoa b).toArray⟩) by unfold txt; rw [if_pos hb, str_app, show 47 :: Lib.itoa b = [47] ++ Lib.itoa b from rfl, str_app])
    have hb1 : decide (1 < b) = true := decide_eq_true hb
    have l1 := itoa_len a v3
    have l2 := itoa_len b (by omega)
    go_enter Tryd.func22, Tryd.ntmps22
    go_wp2_with fail
    refine (HV1.out _).mono ?_
    rintro e w1 ⟨rfl, hg⟩
    have HG1 := Lib.hid ((Gr.one _ _).trans hg)
    have B1 := Lib.hid ((Blk.made w (.int .i64 a) (.int .i64 b) 23).keep hg)
    obtain ⟨s1, x1, y1, f1, e1⟩ := (Blk.made w (.int .i64 a) (.int .i64 b) 23).keep hg
    clear hg
    go_wp2_with fail
    refine (itoa_gr _ _ (HL.out.keep HG1.out.below) (by omega) (by omega)).mono ?_
    rintro e w2 ⟨rfl, hg⟩
    have HG2 := Lib.hid (HG1.out.trans hg)
    clear s1 x1 y1 f1 e1
    obtain ⟨s1, x1, y1, f1, e1⟩ := B1.out.keep hg
    clear hg
    go_wp2_with fail
    refine (itoa_gr _ _ (HL.out.keep HG2.out.below) (by omega) (by omega)).mono ?_
    rintro e w3 ⟨rfl, hg⟩
    have HG3 := Lib.hid (HG2.out.trans hg)
    clear hg
    go_wp2_with fail
    go_ret2
    exact ⟨by rw [H.out]; rfl, HG3.out⟩
  · have H := Lib.hid (show (⟨(txt a b).toArray⟩ : ByteArray) = ⟨(Lib.itoa a).toArray⟩ by unfold txt; rw [if_neg hb, List.append_nil])
    have hb1 : decide (1 < b) = false := decide_eq_false hb
    go_enter Tryd.func22, Tryd.ntmps22
    go_wp2_with fail
    refine (HV1.out _).mono ?_
    rintro e w1 ⟨rfl, hg⟩
    have HG1 := Lib.hid ((Gr.one _ _).trans hg)
    obtain ⟨s1, x1, y1, f1, e1⟩ := (Blk.made w (.int .i64 a) (.int .i64 b) 23).keep hg
    have B1 := Lib.hid ((Blk.made w (.int .i64 a) (.int .i64 b) 23).keep hg)
    clear hg
    go_wp2_with fail
    refine (itoa_gr _ _ (HL.out.keep HG1.out.below) (by omega) (by omega)).mono ?_
    rintro e w2 ⟨rfl, hg⟩
    have HG2 := Lib.hid (HG1.out.trans hg)
    clear s1 x1 y1 f1 e1
    obtain ⟨s1, x1, y1, f1, e1⟩ := B1.out.keep hg
    clear hg
    go_wp2_with fail
    go_ret2
    exact ⟨by rw [H.out]; rfl, HG2.out⟩

/-- what Atoi leaves -/
def APost (s : ByteArray) (w : World) (e : Ending) (w' : World) : Prop :=
  ∃ (v : Int) (ev : Value), e = .returned (.tuple #[.int .i64 v, ev]) ∧ -9223372036854775808 ≤ v ∧ v ≤ 9223372036854775807 ∧ (∀ n, Lib.atoiAll s.data.toList = .ok n → v = n) ∧ Below w.heap.size w w'
theorem atoi_any (s : ByteArray) (w : World) (hs : s.size ≤ 100) (hL : Laid w) : Calls Tryd.prog 47 #[.string s] w (APost s w) := by
  obtain ⟨_, _, ⟨e1, c1, d1⟩, ⟨e2, c2, d2⟩, _⟩ := hL
  cases h : Lib.atoiAll s.data.toList
  · rename_i v
    have := Any.strconv_Atoi_ok Tryd.laysC172 s (by omega) v h w
    change Calls Tryd.prog 47 _ _ _ at this
    refine this.mono ?_
    rintro e w' ⟨rfl, hw⟩
    have bd := atoi_bd _ _ h
    refine ⟨v, _, rfl, bd.1, bd.2, fun n hn => (by rw [h] at hn; injection hn), ?_⟩
    rcases hw with rfl | ⟨t, rfl⟩
    · exact Below.refl _ _
    · exact Lib.bytesWorld_below _ _ _
  · have := Any.strconv_Atoi_syntax Tryd.laysC172 s (by omega) h e1 w c1 d1
    change Calls Tryd.prog 47 _ _ _ at this
    refine this.mono ?_
    rintro e w' ⟨N, rfl, _, _, hb⟩
    exact ⟨_, _, rfl, by decide, by decide, fun n hn => (by rw [h] at hn; cases hn), hb⟩
  · have := Any.strconv_Atoi_range Tryd.laysC172 s (by omega) h e2 w c2 d2
    change Calls Tryd.prog 47 _ _ _ at this
    refine this.mono ?_
    rintro e w' ⟨N, rfl, _, _, hb⟩
    exact ⟨_, _, rfl, by unfold Lib.atoiSat; split <;> decide, by unfold Lib.atoiSat; split <;> decide, fun n hn => (by rw [h] at hn; cases hn), hb⟩
theorem cut_any (s : ByteArray) (w : World) (hs : s.size ≤ 100) (hL : Laid w) : Calls Tryd.prog 46 #[.string s, .string ⟨#[47]⟩] w fun e w' =>
    e = .returned (.tuple #[.string ⟨(Lib.cut s.data.toList [47]).1.toArray⟩, .string ⟨(Lib.cut s.data.toList [47]).2.1.toArray⟩, .bool (Lib.cut s.data.toList [47]).2.2]) ∧ Gr w w' := by
  obtain ⟨_, _, _, _, m, c3⟩ := hL
  exact (Tryd.strings_Cut s ⟨#[47]⟩ m w (by omega) c3).mono fun _ _ ⟨he, n, hw⟩ => ⟨he, by rw [hw]; exact Gr.drewN _ _⟩

theorem one_below {base : Nat} {W w : World} {b o : Nat} {x : Value} (h : Below base W w) (hb : base ≤ b) : Below base W (w.setCell ⟨b, o, none⟩ x) := h.setCell hb _
theorem Blk.put0 {w : World} {b : Nat} {x y x' : Value} (h : Blk w b x y) : Blk (w.setCell ⟨b, 0, none⟩ x') b x' y := by
  obtain ⟨h1, h2, h3, h4, h5⟩ := h
  refine ⟨by simpa using h1, World.cell?_setCell_same' _ _ _ (by rw [h2]; rfl), ?_, by simpa using h4, by simpa using h5⟩
  rw [World.cell?_setCell_other _ _ _ _ (by simp)]; exact h3
theorem Blk.put1 {w : World} {b : Nat} {x y y' : Value} (h : Blk w b x y) : Blk (w.setCell ⟨b, 1, none⟩ y') b x y' := by
  obtain ⟨h1, h2, h3, h4, h5⟩ := h
  refine ⟨by simpa using h1, ?_, World.cell?_setCell_same' _ _ _ (by rw [h3]; rfl), by simpa using h4, by simpa using h5⟩
  rw [World.cell?_setCell_other _ _ _ _ (by simp)]; exact h2
theorem Blk.by1 {w : World} {b b' o : Nat} {x y x' : Value} (h : Blk w b x y) (hne : b ≠ b') : Blk (w.setCell ⟨b', o, none⟩ x') b x y := by
  obtain ⟨h1, h2, h3, h4, h5⟩ := h
  refine ⟨by simpa using h1, ?_, ?_, by simpa using h4, by simpa using h5⟩
  · rw [World.cell?_setCell_other _ _ _ _ (by intro e; injection e with e1 e2; omega)]; exact h2
  · rw [World.cell?_setCell_other _ _ _ _ (by intro e; injection e with e1 e2; omega)]; exact h3
theorem cut_sizes (l : List UInt8) : (Lib.cut l [47]).1.length ≤ l.length ∧ (Lib.cut l [47]).2.1.length ≤ l.length := by
  unfold Lib.cut; split
  · simp; omega
  · simp
set_option maxHeartbeats 2000000 in
/-- Parse, by what the numbers in the text are -/
theorem parse_walk (s : ByteArray) (w : World) (hL : Laid w) (hs : s.size ≤ 100) (Q : Ending → Prop)
    (hQ : ∀ v1 v2 : Int, (∀ n, Lib.atoiAll (Lib.cut s.data.toList [47]).1 = .ok n → v1 = n) → (∀ n, Lib.atoiAll (dtx s.data.toList) = .ok n → v2 = n) → Q (if vld v1 v2 = true ∧ txt v1 v2 = s.data.toList then .returned (.tuple #[.agg #[.int .i64 v1, .int .i64 v2], .int .i64 0]) else .returned (.tuple #[.agg #[.int .i64 0, .int .i64 0], .int .i64 5]))) :
    Calls Tryd.prog 24 #[.string s] w fun e w' => Q e ∧ Below w.heap.size w w' := by
  obtain ⟨z1, z2⟩ := cut_sizes s.data.toList
  have hC := fun W (hL : Laid W) => cut_any s W hs hL
  have hdt : dtx s.data.toList = if (Lib.cut s.data.toList [47]).2.2 = true then (Lib.cut s.data.toList [47]).2.1 else [49] := rfl
  have hsz : s.data.toList.length = s.size := by simp
  rw [hsz] at z1 z2
  generalize dtx s.data.toList = dt at *
  generalize (Lib.cut s.data.toList [47]).1 = p1 at *
  generalize (Lib.cut s.data.toList [47]).2.1 = p2 at *
  generalize (Lib.cut s.data.toList [47]).2.2 = fd at *
  have HC := Lib.hid hC
  have HL := Lib.hid hL
  have HQ := Lib.hid hQ
  have A1 := Lib.hid (fun W (hL : Laid W) => atoi_any ⟨p1.toArray⟩ W (by show p1.toArray.size ≤ 100; simp; omega) hL)
  have A2 := Lib.hid (fun W (hL : Laid W) => atoi_any ⟨dt.toArray⟩ W (by show dt.toArray.size ≤ 100; rw [hdt]; split <;> simp <;> omega) hL)
  have TY := Lib.hid (fun a b W => text_yes a b W)
  have TN := Lib.hid (fun a b W => text_no a b W)
  clear hC hL hQ hsz
  have E : Hid (fd = true ∧ dt = p2 ∨ fd = false ∧ dt = [49]) := by
    cases fd
    · exact Lib.hid (Or.inr ⟨rfl, by rw [hdt]; rfl⟩)
    · exact Lib.hid (Or.inl ⟨rfl, by rw [hdt]; rfl⟩)
  clear hdt z1 z2
  rcases E.out with ⟨rfl, rfl⟩ | ⟨rfl, rfl⟩
  all_goals
    clear E
    go_enter Tryd.func24, Tryd.ntmps24
    go_wp2_with fail
    have R0 := Lib.hid (Blk.made w (.int .i64 0) (.int .i64 0) 23)
    have GW := Lib.hid (Gr.one w (.cells #[.int .i64 0, .int .i64 0] 23))
    have hz0 : (w.alloc (.cells #[.int .i64 0, .int .i64 0] 23)).heap.size = w.heap.size + 1 := by simp
    generalize w.alloc (.cells #[.int .i64 0, .int .i64 0] 23) = W at *
    refine (HC.out _ (HL.out.keep GW.out.below)).mono ?_
    rintro e w1 ⟨rfl, hg⟩
    have R1 := Lib.hid (R0.out.keep hg)
    have GW1 := Lib.hid (GW.out.trans hg)
    have hz1 := hg.size
    clear hg R0 GW
    go_wp2_with fail
    have R2 := Lib.hid (R1.out.keep (Gr.one w1 (.cells #[.int .i64 0, .int .i64 0] 23)))
    have GW2 := Lib.hid (GW1.out.alloc (.cells #[.int .i64 0, .int .i64 0] 23))
    have F2 := Lib.hid (Blk.made w1 (.int .i64 0) (.int .i64 0) 23)
    generalize hw2 : w1.alloc (.cells #[.int .i64 0, .int .i64 0] 23) = w2 at *
    clear hw2
    refine (A1.out _ (HL.out.keep GW2.out.below)).mono ?_
    rintro e w3 ⟨v1, ev1, rfl, b1, b2, hv1, hb⟩
    have R3 := Lib.hid (R2.out.below hb)
    have F3 := Lib.hid (F2.out.below hb)
    have GW3 := Lib.hid (GW2.out.below.trans (hb.mono GW2.out.size))
    have HV1 := Lib.hid hv1
    obtain ⟨s1, x1, y1, f1, e1⟩ := F2.out.below hb
    clear hb hv1 R1 GW1 R2 GW2 F2
    go_wp2_with fail
    have R4 := Lib.hid (R3.out.by1 (o := 0) (x' := .int .i64 v1) (show w.heap.size ≠ w1.heap.size by omega))
    have F4 := Lib.hid (F3.out.put0 (x' := .int .i64 v1))
    have GW4 := Lib.hid (one_below (o := 0) (x := .int .i64 v1) GW3.out (show w.heap.size ≤ w1.heap.size by omega))
    generalize hw4 : w3.setCell ⟨w1.heap.size, 0, none⟩ (.int .i64 v1) = w4 at *
    clear hw4 s1 x1 y1 f1 e1 R3 F3 GW3
    refine (A2.out _ (HL.out.keep GW4.out)).mono ?_
    rintro e w5 ⟨v2, ev2, rfl, b3, b4, hv2, hb⟩
    have R5 := Lib.hid (R4.out.below hb)
    have F5 := Lib.hid (F4.out.below hb)
    have GW5 := Lib.hid (GW4.out.trans (hb.mono GW4.out.size))
    have HV2 := Lib.hid hv2
    obtain ⟨s1, x1, y1, f1, e1⟩ := F4.out.below hb
    clear hb hv2 R4 GW4 F4
    go_wp2_with fail
    have R6 := Lib.hid (R5.out.by1 (o := 1) (x' := .int .i64 v2) (show w.heap.size ≠ w1.heap.size by omega))
    have F6 := Lib.hid (F5.out.put1 (y' := .int .i64 v2))
    have GW6 := Lib.hid (one_below (o := 1) (x := .int .i64 v2) GW5.out (show w.heap.size ≤ w1.heap.size by omega))
    generalize hw6 : w5.setCell ⟨w1.heap.size, 1, none⟩ (.int .i64 v2) = w6 at *
    clear hw6 s1 x1 y1 f1 e1 R5 F5 GW5
    have HE := Lib.hid (HQ.out v1 v2 HV1.out HV2.out)
    clear HQ HV1 HV2 A1 A2 HC
    cases hv : vld v1 v2
    · rw [hv] at HE
      simp only [Bool.false_eq_true, false_and, if_false] at HE
      refine (TN.out _ _ _ hv b1 b2 b3 b4).mono ?_
      rintro e w7 ⟨rfl, hg⟩
      obtain ⟨s1, x1, y1, f1, e1⟩ := R6.out.keep hg
      have GW7 := Lib.hid (GW6.out.trans (hg.below.mono GW6.out.size))
      clear hg R6 GW6 F6 hv
      go_wp2_with fail
      refine bodyPost_ret (v := .tuple #[.agg #[.int .i64 0, .int .i64 0], .int .i64 5]) (by simp [results, Tryd.results24, go_sem, *]) rfl ⟨HE.out, ?_⟩
      exact put_below GW7.out (Nat.le_refl _)
    · rw [hv] at HE
      refine (TY.out _ _ _ (HL.out.keep GW6.out) hv).mono ?_
      rintro e w7 ⟨rfl, hg⟩
      have GW7 := Lib.hid (GW6.out.trans (hg.below.mono GW6.out.size))
      by_cases ht : txt v1 v2 = s.data.toList
      · obtain ⟨s1, x1, y1, f1, e1⟩ := R6.out.keep hg
        obtain ⟨s2, x2, y2, f2, e2⟩ := F6.out.keep hg
        have hst : (⟨(txt v1 v2).toArray⟩ : ByteArray) = s := by rw [ht]
        rw [hst]
        simp only [ht, true_and, if_true] at HE
        clear hg R6 GW6 F6 hv ht hst
        go_wp2_with fail
        refine bodyPost_ret (v := .tuple #[.agg #[.int .i64 v1, .int .i64 v2], .int .i64 0]) (by simp [results, Tryd.results24, go_sem, *]) rfl ⟨HE.out, ?_⟩
        exact put_below GW7.out (Nat.le_refl _)
      · obtain ⟨s1, x1, y1, f1, e1⟩ := R6.out.keep hg
        have hst : (txt v1 v2 != s.toList) = true := by rw [ByteArray.toList_eq, bne_iff_ne]; exact ht
        have hsf : (txt v1 v2 == s.toList) = false := by rw [ByteArray.toList_eq, beq_eq_false_iff_ne]; exact ht
        simp only [ht, and_false, if_false] at HE
        clear hg R6 GW6 F6 hv ht
        go_wp2_with fail
        refine bodyPost_ret (v := .tuple #[.agg #[.int .i64 0, .int .i64 0], .int .i64 5]) (by simp [results, Tryd.results24, go_sem, *]) rfl ⟨HE.out, ?_⟩
        exact put_below GW7.out (Nat.le_refl _)
/-- Parse of a fraction's text -/
theorem parse_yes (a b : Int) (s : ByteArray) (w : World) (hL : Laid w) (hs : s.size ≤ 100) (hv : vld a b = true) (ht : txt a b = s.data.toList) :
    Calls Tryd.prog 24 #[.string s] w fun e w' => e = .returned (.tuple #[.agg #[.int .i64 a, .int .i64 b], .int .i64 0]) ∧ Below w.heap.size w w' := by
  refine parse_walk s w hL hs _ ?_
  intro v1 v2 h1 h2
  obtain ⟨r1, r2⟩ := txt_read a b hv
  rw [ht] at r1 r2
  obtain rfl := h1 _ r1
  obtain rfl := h2 _ r2
  rw [if_pos ⟨hv, ht⟩]
/-- Parse of another text -/
theorem parse_no (s : ByteArray) (w : World) (hL : Laid w) (hs : s.size ≤ 100) (h : ∀ a b, vld a b = true → txt a b ≠ s.data.toList) :
    Calls Tryd.prog 24 #[.string s] w fun e w' => e = .returned (.tuple #[.agg #[.int .i64 0, .int .i64 0], .int .i64 5]) ∧ Below w.heap.size w w' := by
  refine parse_walk s w hL hs _ ?_
  intro v1 v2 _ _
  rw [if_neg (fun e => h v1 v2 e.1 e.2)]
end Go.Proofs.YtdmddfhjfkdlnaaDoor
