/- The contract of forward's Parse. Under the condition that the tables lie in memory as the program lays them. -/
import Derived.Test.YtngbkdnkpolbfaaDoorFQ
import Derived.Test.YtngbkdnkpolbfaaDoorFS
import Derived.Deep.RegionHeld3
namespace Go.Proofs.YtngbkdnkpolbfaaDoor
open Go.RowKit Go.Maps

/-- seven words in memory -/
def Seven (w : World) (b : Nat) (x0 x1 x2 x3 x4 x5 x6 : ByteArray) : Prop :=
  b < w.heap.size ∧ w.cell? ⟨b, 0, none⟩ = some (.string x0) ∧ w.cell? ⟨b, 1, none⟩ = some (.string x1) ∧ w.cell? ⟨b, 2, none⟩ = some (.string x2) ∧ w.cell? ⟨b, 3, none⟩ = some (.string x3) ∧ w.cell? ⟨b, 4, none⟩ = some (.string x4) ∧ w.cell? ⟨b, 5, none⟩ = some (.string x5) ∧ w.cell? ⟨b, 6, none⟩ = some (.string x6)
theorem Seven.keep {w w' : World} {b : Nat} {x0 x1 x2 x3 x4 x5 x6 : ByteArray} (h : Seven w b x0 x1 x2 x3 x4 x5 x6) (hb : Below w.heap.size w w') : Seven w' b x0 x1 x2 x3 x4 x5 x6 := by
  obtain ⟨hl, h0, h1, h2, h3, h4, h5, h6⟩ := h
  have k : ∀ j, w'.cell? ⟨b, j, none⟩ = w.cell? ⟨b, j, none⟩ := fun j => hb.cell (p := ⟨b, j, none⟩) hl
  exact ⟨Nat.lt_of_lt_of_le hl hb.size, (k _).trans h0, (k _).trans h1, (k _).trans h2, (k _).trans h3, (k _).trans h4, (k _).trans h5, (k _).trans h6⟩
theorem Seven.made (w : World) (x0 x1 x2 x3 x4 x5 x6 : ByteArray) : Seven (w.alloc (.cells (([x0, x1, x2, x3, x4, x5, x6].map Value.string).toArray) 9)) w.heap.size x0 x1 x2 x3 x4 x5 x6 := by
  refine ⟨by simp, ?_, ?_, ?_, ?_, ?_, ?_, ?_⟩ <;> simp
theorem Seven.far {w : World} {b b' k : Nat} {v : Value} {x0 x1 x2 x3 x4 x5 x6 : ByteArray} (h : Seven w b x0 x1 x2 x3 x4 x5 x6) (hne : b ≠ b') : Seven (w.setCell ⟨b', k, none⟩ v) b x0 x1 x2 x3 x4 x5 x6 := by
  obtain ⟨hl, h0, h1, h2, h3, h4, h5, h6⟩ := h
  refine ⟨by simpa using hl, ?_, ?_, ?_, ?_, ?_, ?_, ?_⟩ <;> (rw [set_far hne]; assumption)
theorem Blk6.set4 {w : World} {b : Nat} {i p f t : ByteArray} {u v : Int} (h : Blk6 w b ⟨i, p, f, t, u, v⟩) (n : Int) : Blk6 (w.setCell ⟨b, 4, none⟩ (.int .i64 n)) b ⟨i, p, f, t, n, v⟩ := by
  obtain ⟨h1, ⟨c0, c1, c2, c3, c4, c5⟩, h3⟩ := h
  exact ⟨by simpa using h1, ⟨set_keep c0 (by omega), set_keep c1 (by omega), set_keep c2 (by omega), set_keep c3 (by omega), set_same c4, set_keep c5 (by omega)⟩, fun j => by simpa using h3 j⟩
theorem Blk6.set5 {w : World} {b : Nat} {i p f t : ByteArray} {u v : Int} (h : Blk6 w b ⟨i, p, f, t, u, v⟩) (n : Int) : Blk6 (w.setCell ⟨b, 5, none⟩ (.int .i64 n)) b ⟨i, p, f, t, u, n⟩ := by
  obtain ⟨h1, ⟨c0, c1, c2, c3, c4, c5⟩, h3⟩ := h
  exact ⟨by simpa using h1, ⟨set_keep c0 (by omega), set_keep c1 (by omega), set_keep c2 (by omega), set_keep c3 (by omega), set_keep c4 (by omega), set_same c5⟩, fun j => by simpa using h3 j⟩
theorem Blk6.far1 {w : World} {b b' k : Nat} {o : Ord} {v : Value} (h : Blk6 w b o) (hne : b ≠ b') : Blk6 (w.setCell ⟨b', k, none⟩ v) b o := by
  obtain ⟨h1, ⟨c0, c1, c2, c3, c4, c5⟩, h3⟩ := h
  refine ⟨by simpa using h1, ⟨?_, ?_, ?_, ?_, ?_, ?_⟩, fun j => by simpa using h3 j⟩ <;> (rw [set_far hne]; assumption)
/-- what is carried through Parse: the result's block, the words, the order's block, and what lay below -/
def PInv (w : World) (b : Nat) (o : Ord) (x0 x1 x2 x3 x4 x5 x6 : ByteArray) (W : World) : Prop :=
  Blk6 W w.heap.size zeroO ∧ Seven W (w.heap.size + 1) x0 x1 x2 x3 x4 x5 x6 ∧ Blk6 W b o ∧ w.heap.size + 1 < b ∧ Below w.heap.size w W
theorem PInv.keep {w W W' : World} {b : Nat} {o : Ord} {x0 x1 x2 x3 x4 x5 x6 : ByteArray} (h : PInv w b o x0 x1 x2 x3 x4 x5 x6 W) (hb : Below W.heap.size W W') : PInv w b o x0 x1 x2 x3 x4 x5 x6 W' :=
  ⟨h.1.below hb, h.2.1.keep hb, h.2.2.1.below hb, h.2.2.2.1, h.2.2.2.2.trans (hb.mono h.2.2.2.2.size)⟩
theorem PInv.set4 {w W : World} {b : Nat} {i p f t : ByteArray} {u v : Int} {x0 x1 x2 x3 x4 x5 x6 : ByteArray} (h : PInv w b ⟨i, p, f, t, u, v⟩ x0 x1 x2 x3 x4 x5 x6 W) (n : Int) : PInv w b ⟨i, p, f, t, n, v⟩ x0 x1 x2 x3 x4 x5 x6 (W.setCell ⟨b, 4, none⟩ (.int .i64 n)) :=
  ⟨h.1.far1 (by have := h.2.2.2.1; omega), h.2.1.far (by have := h.2.2.2.1; omega), h.2.2.1.set4 n, h.2.2.2.1, h.2.2.2.2.setCell (by have := h.2.2.2.1; show w.heap.size ≤ b; omega) _⟩
theorem PInv.set5 {w W : World} {b : Nat} {i p f t : ByteArray} {u v : Int} {x0 x1 x2 x3 x4 x5 x6 : ByteArray} (h : PInv w b ⟨i, p, f, t, u, v⟩ x0 x1 x2 x3 x4 x5 x6 W) (n : Int) : PInv w b ⟨i, p, f, t, u, n⟩ x0 x1 x2 x3 x4 x5 x6 (W.setCell ⟨b, 5, none⟩ (.int .i64 n)) :=
  ⟨h.1.far1 (by have := h.2.2.2.1; omega), h.2.1.far (by have := h.2.2.2.1; omega), h.2.2.1.set5 n, h.2.2.2.1, h.2.2.2.2.setCell (by have := h.2.2.2.1; show w.heap.size ≤ b; omega) _⟩

set_option maxHeartbeats 8000000 in
set_option maxRecDepth 100000 in
theorem fparse_any (s : ByteArray) (w : World) (hs : s.size ≤ 300) (hL : LaidT w) : Calls Tryd.prog 16 #[.string s] w (FPost s w) := by
  have HL := Lib.hid hL
  clear hL
  have S1 := Lib.hid (fun W (h : LaidT W) => words_any s W hs h)
  have G1 := Lib.hid (Gr.one w (.cells (encO zeroO) 26))
  go_enter Tryd.func16, Tryd.ntmps16
  go_wp2_with fail
  refine (S1.out _ (HL.out.keep G1.out.below)).mono ?_
  rintro e w2 ⟨rfl, hw2⟩
  by_cases hc : Lib.countB s ⟨#[32]⟩ = 6
  case neg =>
    have hd : ((Lib.countB s ⟨#[32]⟩ : Int) + 1 == 7) = false := by
      rw [beq_eq_false_iff_ne]; omega
    have hd' : ((Lib.countB s ⟨#[32]⟩ : Int) + 1 != 7) = true := by
      rw [bne_iff_ne]; omega
    have HN : Hid (∀ o : Ord, oneB o = true → s.data.toList ≠ otxt o) := Lib.hid (fun o h he => hc (wds_otxt o h s he).1)
    have HB := Lib.hid (((Blk6.made w zeroO 26).keep (Gr.one _ (.cells ((wds s).map Value.string).toArray 9))))
    have HZ := Lib.hid (G1.out.alloc (.cells ((wds s).map Value.string).toArray 9))
    have HW := Lib.hid hw2
    rw [← HW.out] at HB HZ
    obtain ⟨_, ⟨v0, v1, v2, v3, v4, v5⟩, fz⟩ := HB.out
    have f0 := fz 0
    have f1 := fz 1
    have f2 := fz 2
    have f3 := fz 3
    have f4 := fz 4
    have f5 := fz 5
    clear fz hw2 hc
    go_wp2_with fail
    refine bodyPost_ret (v := .tuple #[.agg (encO zeroO), .int .i64 5]) (by simp [results, Tryd.results16, go_sem, zeroO, *]) rfl ⟨put6_below (o := zeroO) HZ.out.below (Nat.le_refl _), Or.inr ⟨HN.out, rfl⟩⟩
  obtain ⟨x0, x1, x2, x3, x4, x5, x6, hx⟩ := wds_seven hc
  have zz : ∀ x ∈ wds s, x.size ≤ 300 := fun x h => Nat.le_trans (wds_le h) hs
  rw [hx] at zz hw2
  have z1 := zz x1 (by simp)
  have z2 := zz x2 (by simp)
  have z3 := zz x3 (by simp)
  have z4 := zz x4 (by simp)
  have z5 := zz x5 (by simp)
  have z6 := zz x6 (by simp)
  have HX := Lib.hid hx
  have HB := Lib.hid (((Blk6.made w zeroO 26).keep (Gr.one _ (.cells (([x0, x1, x2, x3, x4, x5, x6].map Value.string).toArray) 9))))
  have HV : Hid (Seven w2 (w.heap.size + 1) x0 x1 x2 x3 x4 x5 x6) := Lib.hid (by rw [hw2]; simpa using Seven.made (w.alloc (.cells (encO zeroO) 26)) x0 x1 x2 x3 x4 x5 x6)
  have HZ := Lib.hid (G1.out.alloc (.cells (([x0, x1, x2, x3, x4, x5, x6].map Value.string).toArray) 9))
  rw [← hw2] at HB HZ
  rw [hc]
  clear hw2 hc hx zz S1 G1
  obtain ⟨_, c0, c1, c2, c3, c4, c5, c6⟩ := HV.out
  go_wp2_with fail
  go_region_held3 (fun w' => w'.cell? ⟨w.heap.size + 1, 1, none⟩ = some (.string x1) ∧ w'.cell? ⟨w.heap.size + 1, 2, none⟩ = some (.string x2) ∧ w'.cell? ⟨w.heap.size + 1, 3, none⟩ = some (.string x3) ∧ w'.cell? ⟨w.heap.size + 1, 4, none⟩ = some (.string x4)) (first | (go_keep; done) | ((try dsimp only); refine ⟨?_, ?_, ?_, ?_⟩ <;> (simp [*]; done))) (first | fail)
  have GA : Gr w2 ((w2.alloc (.cells (encO ⟨x1, x2, x3, x4, 0, -1⟩) 26)).drew) := (Gr.one _ _).trans (Gr.drewn _)
  have I0 : Hid (PInv w w2.heap.size ⟨x1, x2, x3, x4, 0, -1⟩ x0 x1 x2 x3 x4 x5 x6 ((w2.alloc (.cells (encO ⟨x1, x2, x3, x4, 0, -1⟩) 26)).drew)) := Lib.hid ⟨HB.out.keep GA, HV.out.keep GA.below, (Blk6.made w2 ⟨x1, x2, x3, x4, 0, -1⟩ 26).keep (Gr.drewn _), HV.out.1, (HZ.out.trans GA).below⟩
  clear GA HB HV HZ c0 c1 c2 c3 c4 c5 c6
  have hfold : (w2.alloc (.cells #[.string x1, .string x2, .string x3, .string x4, .int .i64 0, .int .i64 (-1)] 26)).drew = ((w2.alloc (.cells (encO ⟨x1, x2, x3, x4, 0, -1⟩) 26)).drew) := rfl
  rw [hfold]
  clear hfold
  generalize ((w2.alloc (.cells (encO ⟨x1, x2, x3, x4, 0, -1⟩) 26)).drew) = w3 at *
  generalize w2.heap.size = b at *
  obtain ⟨⟨_, ⟨v0, v1, v2, v3, v4, v5'⟩, fz⟩, ⟨_, c0, c1, c2, c3, c4, c5, c6⟩, ⟨_, ⟨u0, u1, u2, u3, u4, u5⟩, gz⟩, _, hbel⟩ := I0.out
  have g4 := gz 4
  have g5 := gz 5
  have L0 := Lib.hid (HL.out.keep hbel)
  clear fz gz hbel v0 v1 v2 v3 v4 v5'
  go_wp2_with fail
  refine (dparse_any x5 _ z5 L0.out).mono ?_
  rintro e w4 ⟨v5, er5, rfl, hD, hb⟩
  have D5 := Lib.hid hD
  have I1 := Lib.hid (I0.out.keep hb)
  clear hD hb L0
  clear c0 c1 c2 c3 c4 c5 c6 u0 u1 u2 u3 u4 u5 g4 g5
  clear I0
  by_cases h6 : x6.data.toList = [45]
  · have U6 : Hid (UntIs x6 (-1)) := Lib.hid (Or.inl ⟨h6, rfl⟩)
    obtain rfl : x6 = ⟨#[45]⟩ := ByteArray.ext (Array.toList_inj.1 h6)
    clear h6
    obtain ⟨⟨_, ⟨v0, v1, v2, v3, v4, v5'⟩, fz⟩, ⟨_, c0, c1, c2, c3, c4, c5, c6⟩, ⟨_, ⟨u0, u1, u2, u3, u4, u5⟩, gz⟩, _, hbel⟩ := I1.out
    have g4 := gz 4
    have g5 := gz 5
    have L1 := Lib.hid (HL.out.keep hbel)
    clear fz gz hbel v0 v1 v2 v3 v4 v5'
    go_wp2_with fail
    have I2 := Lib.hid (I1.out.set4 v5)
    clear I1 L1
    clear c0 c1 c2 c3 c4 c5 c6 u0 u1 u2 u3 u4 u5 g4 g5
    generalize w4.setCell ⟨b, 4, none⟩ (.int .i64 v5) = w5 at *
    cases ho : oneB ⟨x1, x2, x3, x4, v5, -1⟩
    · refine (otext_no ⟨x1, x2, x3, x4, v5, -1⟩ _ ⟨by dsimp only; omega, by dsimp only; omega, by dsimp only; omega, by dsimp only; omega⟩ ho).mono ?_
      rintro e wy ⟨rfl, hb⟩
      have J := Lib.hid (I2.out.keep hb)
      clear hb
      have HN : Hid (∀ o : Ord, oneB o = true → s.data.toList ≠ otxt o) := Lib.hid (fun o h he => by rw [read_otxt HX.out D5.out U6.out o h he] at h; rw [h] at ho; cases ho)
      obtain ⟨⟨_, ⟨v0, v1, v2, v3, v4, v5'⟩, fz⟩, _, ⟨_, ⟨u0, u1, u2, u3, u4, u5⟩, _⟩, _, hbel⟩ := J.out
      have f0 := fz 0
      have f1 := fz 1
      have f2 := fz 2
      have f3 := fz 3
      have f4 := fz 4
      have f5 := fz 5
      have HBL := Lib.hid hbel
      clear fz hbel
      clear ho
      go_wp2_with fail
      refine bodyPost_ret (v := .tuple #[.agg (encO zeroO), .int .i64 5]) (by simp [results, Tryd.results16, go_sem, zeroO, *]) rfl ⟨put6_below (o := zeroO) HBL.out (Nat.le_refl _), Or.inr ⟨HN.out, rfl⟩⟩
    by_cases he : s.data.toList = otxt ⟨x1, x2, x3, x4, v5, -1⟩
    · refine (otext_yes ⟨x1, x2, x3, x4, v5, -1⟩ _ (HL.out.keep I2.out.2.2.2.2).1 ho).mono ?_
      rintro e wy ⟨rfl, hb⟩
      have J := Lib.hid (I2.out.keep hb)
      clear hb
      have HE : Hid (FPost s w (.returned (.tuple #[.agg (encO ⟨x1, x2, x3, x4, v5, -1⟩), .int .i64 0])) (put6 wy w.heap.size ⟨x1, x2, x3, x4, v5, -1⟩)) := Lib.hid ⟨put6_below J.out.2.2.2.2 (Nat.le_refl _), Or.inl ⟨_, ho, he, rfl⟩⟩
      have hq : (⟨(otxt ⟨x1, x2, x3, x4, v5, -1⟩).toArray⟩ : ByteArray) = s := ByteArray.ext (by rw [← he])
      rw [hq]
      obtain ⟨⟨_, ⟨v0, v1, v2, v3, v4, v5'⟩, fz⟩, _, ⟨_, ⟨u0, u1, u2, u3, u4, u5⟩, _⟩, _, _⟩ := J.out
      have f0 := fz 0
      have f1 := fz 1
      have f2 := fz 2
      have f3 := fz 3
      have f4 := fz 4
      have f5 := fz 5
      clear fz ho he hq
      go_wp2_with fail
      exact bodyPost_ret (v := .tuple #[.agg (encO ⟨x1, x2, x3, x4, v5, -1⟩), .int .i64 0]) (by simp [results, Tryd.results16, go_sem, *]) rfl HE.out
    · refine (otext_yes ⟨x1, x2, x3, x4, v5, -1⟩ _ (HL.out.keep I2.out.2.2.2.2).1 ho).mono ?_
      rintro e wy ⟨rfl, hb⟩
      have J := Lib.hid (I2.out.keep hb)
      clear hb
      have HN : Hid (∀ o : Ord, oneB o = true → s.data.toList ≠ otxt o) := Lib.hid (fun o h he' => he (by rw [← read_otxt HX.out D5.out U6.out o h he']; exact he'))
      obtain ⟨⟨_, ⟨v0, v1, v2, v3, v4, v5'⟩, fz⟩, _, ⟨_, ⟨u0, u1, u2, u3, u4, u5⟩, _⟩, _, hbel⟩ := J.out
      have f0 := fz 0
      have f1 := fz 1
      have f2 := fz 2
      have f3 := fz 3
      have f4 := fz 4
      have f5 := fz 5
      have HBL := Lib.hid hbel
      clear fz hbel
      have bn := bytes_ne (x := ⟨(otxt ⟨x1, x2, x3, x4, v5, -1⟩).toArray⟩) (y := s) (fun e => he (by rw [← e]))
      generalize (⟨(otxt ⟨x1, x2, x3, x4, v5, -1⟩).toArray⟩ : ByteArray) = T at *
      clear ho he
      go_wp2_with fail
      refine bodyPost_ret (v := .tuple #[.agg (encO zeroO), .int .i64 5]) (by simp [results, Tryd.results16, go_sem, zeroO, *]) rfl ⟨put6_below (o := zeroO) HBL.out (Nat.le_refl _), Or.inr ⟨HN.out, rfl⟩⟩
  · have b6 : (x6.toList == [45]) = false := by rw [beq_eq_false_iff_ne, ByteArray.toList_eq]; exact h6
    obtain ⟨⟨_, ⟨v0, v1, v2, v3, v4, v5'⟩, fz⟩, ⟨_, c0, c1, c2, c3, c4, c5, c6⟩, ⟨_, ⟨u0, u1, u2, u3, u4, u5⟩, gz⟩, _, hbel⟩ := I1.out
    have g4 := gz 4
    have g5 := gz 5
    have L1 := Lib.hid (HL.out.keep hbel)
    clear fz gz hbel v0 v1 v2 v3 v4 v5'
    have I2 := Lib.hid (I1.out.set4 v5)
    have L2 := Lib.hid (HL.out.keep I2.out.2.2.2.2)
    go_wp2_with fail
    clear I1 L1
    clear c0 c1 c2 c3 c4 c5 c6 u0 u1 u2 u3 u4 u5 g4 g5
    generalize w4.setCell ⟨b, 4, none⟩ (.int .i64 v5) = w5 at *
    refine (dparse_any x6 _ z6 L2.out).mono ?_
    rintro e w6 ⟨v6, er6, rfl, hD, hb⟩
    have U6 : Hid (UntIs x6 v6) := Lib.hid (Or.inr ⟨h6, hD⟩)
    have I3 := Lib.hid (I2.out.keep hb)
    clear hD hb L2 I2 h6 b6
    obtain ⟨⟨_, ⟨v0, v1, v2, v3, v4, v5'⟩, fz⟩, ⟨_, c0, c1, c2, c3, c4, c5, c6⟩, ⟨_, ⟨u0, u1, u2, u3, u4, u5⟩, gz⟩, _, hbel⟩ := I3.out
    have g4 := gz 4
    have g5 := gz 5
    have L3 := Lib.hid (HL.out.keep hbel)
    clear fz gz hbel v0 v1 v2 v3 v4 v5'
    go_wp2_with fail
    have I4 := Lib.hid (I3.out.set5 v6)
    clear I3 L3
    clear c0 c1 c2 c3 c4 c5 c6 u0 u1 u2 u3 u4 u5 g4 g5
    generalize w6.setCell ⟨b, 5, none⟩ (.int .i64 v6) = w7 at *
    cases ho : oneB ⟨x1, x2, x3, x4, v5, v6⟩
    · refine (otext_no ⟨x1, x2, x3, x4, v5, v6⟩ _ ⟨by dsimp only; omega, by dsimp only; omega, by dsimp only; omega, by dsimp only; omega⟩ ho).mono ?_
      rintro e wy ⟨rfl, hb⟩
      have J := Lib.hid (I4.out.keep hb)
      clear hb
      have HN : Hid (∀ o : Ord, oneB o = true → s.data.toList ≠ otxt o) := Lib.hid (fun o h he => by rw [read_otxt HX.out D5.out U6.out o h he] at h; rw [h] at ho; cases ho)
      obtain ⟨⟨_, ⟨v0, v1, v2, v3, v4, v5'⟩, fz⟩, _, ⟨_, ⟨u0, u1, u2, u3, u4, u5⟩, _⟩, _, hbel⟩ := J.out
      have f0 := fz 0
      have f1 := fz 1
      have f2 := fz 2
      have f3 := fz 3
      have f4 := fz 4
      have f5 := fz 5
      have HBL := Lib.hid hbel
      clear fz hbel
      clear ho
      go_wp2_with fail
      refine bodyPost_ret (v := .tuple #[.agg (encO zeroO), .int .i64 5]) (by simp [results, Tryd.results16, go_sem, zeroO, *]) rfl ⟨put6_below (o := zeroO) HBL.out (Nat.le_refl _), Or.inr ⟨HN.out, rfl⟩⟩
    by_cases he : s.data.toList = otxt ⟨x1, x2, x3, x4, v5, v6⟩
    · refine (otext_yes ⟨x1, x2, x3, x4, v5, v6⟩ _ (HL.out.keep I4.out.2.2.2.2).1 ho).mono ?_
      rintro e wy ⟨rfl, hb⟩
      have J := Lib.hid (I4.out.keep hb)
      clear hb
      have HE : Hid (FPost s w (.returned (.tuple #[.agg (encO ⟨x1, x2, x3, x4, v5, v6⟩), .int .i64 0])) (put6 wy w.heap.size ⟨x1, x2, x3, x4, v5, v6⟩)) := Lib.hid ⟨put6_below J.out.2.2.2.2 (Nat.le_refl _), Or.inl ⟨_, ho, he, rfl⟩⟩
      have hq : (⟨(otxt ⟨x1, x2, x3, x4, v5, v6⟩).toArray⟩ : ByteArray) = s := ByteArray.ext (by rw [← he])
      rw [hq]
      obtain ⟨⟨_, ⟨v0, v1, v2, v3, v4, v5'⟩, fz⟩, _, ⟨_, ⟨u0, u1, u2, u3, u4, u5⟩, _⟩, _, _⟩ := J.out
      have f0 := fz 0
      have f1 := fz 1
      have f2 := fz 2
      have f3 := fz 3
      have f4 := fz 4
      have f5 := fz 5
      clear fz ho he hq
      go_wp2_with fail
      exact bodyPost_ret (v := .tuple #[.agg (encO ⟨x1, x2, x3, x4, v5, v6⟩), .int .i64 0]) (by simp [results, Tryd.results16, go_sem, *]) rfl HE.out
    · refine (otext_yes ⟨x1, x2, x3, x4, v5, v6⟩ _ (HL.out.keep I4.out.2.2.2.2).1 ho).mono ?_
      rintro e wy ⟨rfl, hb⟩
      have J := Lib.hid (I4.out.keep hb)
      clear hb
      have HN : Hid (∀ o : Ord, oneB o = true → s.data.toList ≠ otxt o) := Lib.hid (fun o h he' => he (by rw [← read_otxt HX.out D5.out U6.out o h he']; exact he'))
      obtain ⟨⟨_, ⟨v0, v1, v2, v3, v4, v5'⟩, fz⟩, _, ⟨_, ⟨u0, u1, u2, u3, u4, u5⟩, _⟩, _, hbel⟩ := J.out
      have f0 := fz 0
      have f1 := fz 1
      have f2 := fz 2
      have f3 := fz 3
      have f4 := fz 4
      have f5 := fz 5
      have HBL := Lib.hid hbel
      clear fz hbel
      have bn := bytes_ne (x := ⟨(otxt ⟨x1, x2, x3, x4, v5, v6⟩).toArray⟩) (y := s) (fun e => he (by rw [← e]))
      generalize (⟨(otxt ⟨x1, x2, x3, x4, v5, v6⟩).toArray⟩ : ByteArray) = T at *
      clear ho he
      go_wp2_with fail
      refine bodyPost_ret (v := .tuple #[.agg (encO zeroO), .int .i64 5]) (by simp [results, Tryd.results16, go_sem, zeroO, *]) rfl ⟨put6_below (o := zeroO) HBL.out (Nat.le_refl _), Or.inr ⟨HN.out, rfl⟩⟩
end Go.Proofs.YtngbkdnkpolbfaaDoor
