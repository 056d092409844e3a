/- The contract of the reference's Parse. Under no condition but sizes. -/
import Derived.Test.YtngbkdnkpolbfaaDoorHD
import Derived.Test.YtngbkdnkpolbfaaDoorFR
import Derived.Deep.RegionHeld3
namespace Go.Proofs.YtngbkdnkpolbfaaDoor
open Go.RowKit Go.Maps

theorem map_data_inj : ∀ {a b : List ByteArray}, a.map (·.data.toList) = b.map (·.data.toList) → a = b
  | [], [], _ => rfl
  | [], _ :: _, h => by simp at h
  | _ :: _, [], h => by simp at h
  | x :: a, y :: b, h => by
    simp only [List.map_cons, List.cons.injEq] at h
    rw [ByteArray.ext (Array.toList_inj.1 h.1), map_data_inj h.2]
/-- what the reference's Parse of days leaves -/
def DQ (x : ByteArray) (v er : Int) : Prop := (er = 0 ∧ 0 ≤ v ∧ v ≤ 100000 ∧ x.data.toList = txt v) ∨ (er = 5 ∧ v = 0 ∧ ∀ a : Int, 0 ≤ a → a ≤ 100000 → x.data.toList ≠ txt a)
theorem rdparse_any (s : ByteArray) (w : World) (hs : s.size ≤ 300) : Calls Tryd.prog 39 #[.string s] w fun e w' => w = w' ∧ ∃ v er : Int, e = .returned (.tuple #[.int .i64 v, .int .i64 er]) ∧ DQ s v er := by
  refine (rparse_any s w hs).mono ?_
  rintro e w' ⟨rfl, ⟨a, a0, a1, h, he⟩ | ⟨h, he⟩⟩
  · exact ⟨rfl, a, 0, he, Or.inl ⟨rfl, a0, a1, h⟩⟩
  · exact ⟨rfl, 0, 5, he, Or.inr ⟨rfl, rfl, h⟩⟩
theorem DQ.day {x : ByteArray} {v er : Int} (h : DQ x v er) : DayIs x v := by
  rcases h with ⟨_, h0, h1, h2⟩ | ⟨_, rfl, h2⟩
  · exact ⟨h0, h1, fun a a0 a1 ha => txt_inj v a h0 h1 a0 a1 (h2.symm.trans ha)⟩
  · exact ⟨by omega, by omega, fun a a0 a1 ha => absurd ha (h2 a a0 a1)⟩
theorem DQ.no5 {s x0 x1 x2 x3 x4 x5 x6 : ByteArray} (hw : wds s = [x0, x1, x2, x3, x4, x5, x6]) (h : ∀ a : Int, 0 ≤ a → a ≤ 100000 → x5.data.toList ≠ txt a) : ∀ o : Ord, oneB o = true → s.data.toList ≠ otxt o := by
  intro o ho hs
  obtain ⟨_, hm⟩ := wds_otxt o ho s hs
  rw [hw] at hm
  simp only [List.map_cons, List.map_nil, List.cons.injEq, and_true] at hm
  obtain ⟨_, _, _, _, _, n6⟩ := one_parts ho
  obtain ⟨p1, p2, p3⟩ := (prp_iff (o.pf, o.pu)).1 n6
  exact h o.pf p1 p2 hm.2.2.2.2.2.1
theorem DQ.no6 {s x0 x1 x2 x3 x4 x5 x6 : ByteArray} (hw : wds s = [x0, x1, x2, x3, x4, x5, x6]) (hne : x6.data.toList ≠ [45]) (h : ∀ a : Int, 0 ≤ a → a ≤ 100000 → x6.data.toList ≠ txt a) : ∀ o : Ord, oneB o = true → s.data.toList ≠ otxt o := by
  intro o ho hs
  obtain ⟨_, hm⟩ := wds_otxt o ho s hs
  rw [hw] at hm
  simp only [List.map_cons, List.map_nil, List.cons.injEq, and_true] at hm
  obtain ⟨_, _, _, _, _, n6⟩ := one_parts ho
  obtain ⟨p1, p2, p3⟩ := (prp_iff (o.pf, o.pu)).1 n6
  dsimp only at p1 p2 p3
  have e := hm.2.2.2.2.2.2
  unfold unt at e
  split at e
  · exact h o.pu (by omega) (by omega) e
  · exact hne e
theorem otxt_len2 {o : Ord} (h : oneB o = true) : (otxt o).length ≤ 200 := by
  obtain ⟨n1, n2, n3, n4, _, n6⟩ := one_parts h
  obtain ⟨p1, p2, p3⟩ := (prp_iff (o.pf, o.pu)).1 n6
  dsimp only at p1 p2 p3
  have z1 := (nm_size n1).2
  have z2 := (nm_size n2).2
  have z3 := (nm_size n3).2
  have z4 := (nm_size n4).2
  have l1 := txt_len o.pf p1 p2
  have l2 := unt_len o.pu (by omega)
  unfold otxt
  simp [Lib.join] at *
  omega
theorem otxt_short {s : ByteArray} (h : 200 < s.size) : ∀ o : Ord, oneB o = true → s.data.toList ≠ otxt o := by
  intro o ho e
  have k := otxt_len2 ho
  rw [← e] at k
  simp at k
  omega
/-- what is carried through the reference's Parse -/
def QInv (w : World) (g b : Nat) (o : Ord) (x0 x1 x2 x3 x4 x5 x6 : ByteArray) (W : World) : Prop :=
  Blk6 W w.heap.size zeroO ∧ Seven W g x0 x1 x2 x3 x4 x5 x6 ∧ Blk6 W b o ∧ w.heap.size < g ∧ g < b ∧ Below w.heap.size w W
theorem QInv.keep {w W W' : World} {g b : Nat} {o : Ord} {x0 x1 x2 x3 x4 x5 x6 : ByteArray} (h : QInv w g b o x0 x1 x2 x3 x4 x5 x6 W) (hb : Below W.heap.size W W') : QInv w g b o x0 x1 x2 x3 x4 x5 x6 W' :=
  ⟨h.1.below hb, h.2.1.keep hb, h.2.2.1.below hb, h.2.2.2.1, h.2.2.2.2.1, h.2.2.2.2.2.trans (hb.mono h.2.2.2.2.2.size)⟩
theorem QInv.set {w W : World} {g b : Nat} {i p f t : ByteArray} {u v : Int} {x0 x1 x2 x3 x4 x5 x6 : ByteArray} (h : QInv w g b ⟨i, p, f, t, u, v⟩ x0 x1 x2 x3 x4 x5 x6 W) (n k : Int) : QInv w g b ⟨i, p, f, t, n, k⟩ x0 x1 x2 x3 x4 x5 x6 ((W.setCell ⟨b, 4, none⟩ (.int .i64 n)).setCell ⟨b, 5, none⟩ (.int .i64 k)) := by
  obtain ⟨h1, h2, h3, h4, h5, h6⟩ := h
  exact ⟨(h1.far1 (by omega)).far1 (by omega), (h2.far (by omega)).far (by omega), (h3.set4 n).set5 k, h4, h5, (h6.setCell (by show w.heap.size ≤ b; omega) _).setCell (by show w.heap.size ≤ b; omega) _⟩
theorem words_seven {s : ByteArray} {out : List ByteArray} (hl : out.length = 7) (h : out.map (·.data.toList) = wsp s.data.toList ∨ ((7 : Nat) = 9 ∧ 9 ≤ (wsp s.data.toList).length)) : ∃ x0 x1 x2 x3 x4 x5 x6, out = [x0, x1, x2, x3, x4, x5, x6] ∧ wds s = [x0, x1, x2, x3, x4, x5, x6] := by
  rcases h with h | ⟨h, _⟩
  · match out, hl with
    | [x0, x1, x2, x3, x4, x5, x6], _ => exact ⟨x0, x1, x2, x3, x4, x5, x6, rfl, map_data_inj (by rw [(wsp_wds s).2, h])⟩
  · omega
theorem words_not {s : ByteArray} {out : List ByteArray} {n : Nat} (hl : out.length = n) (hn : n ≠ 7) (h : out.map (·.data.toList) = wsp s.data.toList ∨ (n = 9 ∧ 9 ≤ (wsp s.data.toList).length)) : ∀ o : Ord, oneB o = true → s.data.toList ≠ otxt o := by
  intro o ho hs
  have k := (wds_otxt o ho s hs).1
  have k2 := (wsp_wds s).1
  rcases h with h | ⟨_, h⟩
  · have := congrArg List.length h
    rw [List.length_map, hl] at this
    omega
  · omega
theorem Seven.own {w : World} {base g cap : Nat} {x0 x1 x2 x3 x4 x5 x6 : ByteArray} (h : OwnT w base g cap [x0, x1, x2, x3, x4, x5, x6]) : Seven w g x0 x1 x2 x3 x4 x5 x6 := by
  have c : ∀ j, j < 7 → w.cell? ⟨g, j, none⟩ = (strs [x0, x1, x2, x3, x4, x5, x6])[j]? := fun j hj => World.ownsRow.cellAt h j (by simpa using hj)
  exact ⟨(h.lt g rfl).2, (c 0 (by omega)).trans rfl, (c 1 (by omega)).trans rfl, (c 2 (by omega)).trans rfl, (c 3 (by omega)).trans rfl, (c 4 (by omega)).trans rfl, (c 5 (by omega)).trans rfl, (c 6 (by omega)).trans rfl⟩

set_option maxHeartbeats 16000000 in
set_option maxRecDepth 100000 in
theorem rfparse_any (s : ByteArray) (w : World) (hs : s.size ≤ 300) : Calls Tryd.prog 17 #[.string s] w (FPost s w) := by
  have G1 := Lib.hid (Gr.one w (.cells (encO zeroO) 26))
  by_cases hz : 200 < s.size
  · have HN := Lib.hid (otxt_short hz)
    have HBL := Lib.hid G1.out.below
    go_enter Tryd.func17, Tryd.ntmps17
    go_wp2_with fail
    exact bodyPost_ret (v := .tuple #[.agg (encO zeroO), .int .i64 5]) (by simp [results, Tryd.results17, go_sem, zeroO]) rfl ⟨HBL.out, Or.inr ⟨HN.out, rfl⟩⟩
  have S1 := Lib.hid (fun W => rwords_any s W hs)
  go_enter Tryd.func17, Tryd.ntmps17
  go_wp2_with fail
  refine (S1.out _).mono ?_
  rintro e w2 ⟨n, g, cap, out, rfl, hn, hn9, hO, hb, hw⟩
  have B2 := Lib.hid ((Blk6.made w zeroO 26).below hb)
  have HBL := Lib.hid (G1.out.below.trans (hb.mono (by simp)))
  have hg : w.heap.size < g := by have h := (hO.lt g rfl).1; simp at h; omega
  by_cases h7 : n = 7
  · subst h7
    obtain ⟨x0, x1, x2, x3, x4, x5, x6, rfl, hx⟩ := words_seven hn hw
    have HX := Lib.hid hx
    have HV := Lib.hid (Seven.own hO)
    have zz : ∀ x ∈ wds s, x.size ≤ 300 := fun x h => Nat.le_trans (wds_le h) hs
    rw [hx] at zz
    have z1 := zz x1 (by simp)
    have z2 := zz x2 (by simp)
    have z3 := zz x3 (by simp)
    have z4 := zz x4 (by simp)
    have z5 := zz x5 (by simp)
    have z6 := zz x6 (by simp)
    clear zz hx hw hn hO hb S1
    obtain ⟨hgl, c0, c1, c2, c3, c4, c5, c6⟩ := HV.out
    go_wp2_with fail
    go_region_held3 (fun w' => w'.cell? ⟨g, 1, none⟩ = some (.string x1) ∧ w'.cell? ⟨g, 2, none⟩ = some (.string x2) ∧ w'.cell? ⟨g, 3, none⟩ = some (.string x3) ∧ w'.cell? ⟨g, 4, none⟩ = some (.string x4)) (first | (go_keep; done) | ((try dsimp only); refine ⟨?_, ?_, ?_, ?_⟩ <;> (simp [*]; done))) (first | fail)
    have GA : Gr w2 ((w2.alloc (.cells (encO ⟨x1, x2, x3, x4, 0, 0⟩) 26)).drew) := (Gr.one _ _).trans (Gr.drewn _)
    have I0 : Hid (QInv w g w2.heap.size ⟨x1, x2, x3, x4, 0, 0⟩ x0 x1 x2 x3 x4 x5 x6 ((w2.alloc (.cells (encO ⟨x1, x2, x3, x4, 0, 0⟩) 26)).drew)) := Lib.hid ⟨B2.out.keep GA, HV.out.keep GA.below, (Blk6.made w2 ⟨x1, x2, x3, x4, 0, 0⟩ 26).keep (Gr.drewn _), hg, hgl, HBL.out.trans (GA.below.mono HBL.out.size)⟩
    clear GA B2 HV HBL c0 c1 c2 c3 c4 c5 c6
    have hfold : (w2.alloc (.cells #[.string x1, .string x2, .string x3, .string x4, .int .i64 0, .int .i64 0] 26)).drew = ((w2.alloc (.cells (encO ⟨x1, x2, x3, x4, 0, 0⟩) 26)).drew) := rfl
    rw [hfold]
    clear hfold
    generalize ((w2.alloc (.cells (encO ⟨x1, x2, x3, x4, 0, 0⟩) 26)).drew) = w3 at *
    generalize w2.heap.size = b at *
    obtain ⟨_, ⟨_, c0, c1, c2, c3, c4, c5, c6⟩, ⟨_, ⟨u0, u1, u2, u3, u4, u5⟩, gz⟩, _⟩ := I0.out
    have g4 := gz 4
    have g5 := gz 5
    clear gz
    go_wp2_with fail
    refine (rdparse_any x5 _ z5).mono ?_
    rintro e _ ⟨rfl, v5, er5, rfl, D5⟩
    have D5 := Lib.hid D5
    rcases id D5.out with ⟨rfl, -⟩ | ⟨rfl, -, hno⟩
    · by_cases h6 : x6.data.toList = [45]
      · have U6 : Hid (UntIs x6 (-1)) := Lib.hid (Or.inl ⟨h6, rfl⟩)
        obtain rfl : x6 = ⟨#[45]⟩ := ByteArray.ext (Array.toList_inj.1 h6)
        clear h6
        go_wp2_with fail
        have I2 := Lib.hid (I0.out.set v5 (-1))
        clear I0
        clear c0 c1 c2 c3 c4 c5 c6 u0 u1 u2 u3 u4 u5 g4 g5
        generalize (w3.setCell ⟨b, 4, none⟩ (.int .i64 v5)).setCell ⟨b, 5, none⟩ (.int .i64 (-1)) = w5 at *
        cases ho : oneB ⟨x1, x2, x3, x4, v5, -1⟩
        · refine (rotext_no ⟨x1, x2, x3, x4, v5, -1⟩ _ ⟨by dsimp only; omega, by dsimp only; omega, by dsimp only; omega, by dsimp only; omega⟩ ho).mono ?_
          rintro e wy ⟨rfl, hb⟩
          have J := Lib.hid (I2.out.keep hb)
          clear hb I2
          have HN : Hid (∀ o : Ord, oneB o = true → s.data.toList ≠ otxt o) := Lib.hid (fun o h he => by rw [read_otxt HX.out D5.out.day U6.out o h he] at h; rw [h] at ho; cases ho)
          have HBL := Lib.hid J.out.2.2.2.2.2
          obtain ⟨_, ⟨v0, v1, v2, v3, v4, v5'⟩, fz⟩ := J.out.1
          have f0 := fz 0
          have f1 := fz 1
          have f2 := fz 2
          have f3 := fz 3
          have f4 := fz 4
          have f5 := fz 5
          clear fz
          obtain ⟨_, ⟨u0, u1, u2, u3, u4, u5⟩, _⟩ := J.out.2.2.1
          clear ho
          go_wp2_with fail
          refine bodyPost_ret (v := .tuple #[.agg (encO zeroO), .int .i64 5]) (by simp [results, Tryd.results17, go_sem, zeroO, *]) rfl ⟨put6_below (o := zeroO) HBL.out (Nat.le_refl _), Or.inr ⟨HN.out, rfl⟩⟩
        by_cases he : s.data.toList = otxt ⟨x1, x2, x3, x4, v5, -1⟩
        · refine (rotext_yes ⟨x1, x2, x3, x4, v5, -1⟩ _ ho).mono ?_
          rintro e wy ⟨rfl, hb⟩
          have J := Lib.hid (I2.out.keep hb)
          clear hb I2
          have HE : Hid (FPost s w (.returned (.tuple #[.agg (encO ⟨x1, x2, x3, x4, v5, -1⟩), .int .i64 0])) (put6 wy w.heap.size ⟨x1, x2, x3, x4, v5, -1⟩)) := Lib.hid ⟨put6_below J.out.2.2.2.2.2 (Nat.le_refl _), Or.inl ⟨_, ho, he, rfl⟩⟩
          have hq : (⟨(otxt ⟨x1, x2, x3, x4, v5, -1⟩).toArray⟩ : ByteArray) = s := ByteArray.ext (by rw [← he])
          rw [hq]
          obtain ⟨_, ⟨v0, v1, v2, v3, v4, v5'⟩, fz⟩ := J.out.1
          have f0 := fz 0
          have f1 := fz 1
          have f2 := fz 2
          have f3 := fz 3
          have f4 := fz 4
          have f5 := fz 5
          clear fz
          obtain ⟨_, ⟨u0, u1, u2, u3, u4, u5⟩, _⟩ := J.out.2.2.1
          clear ho he hq
          go_wp2_with fail
          exact bodyPost_ret (v := .tuple #[.agg (encO ⟨x1, x2, x3, x4, v5, -1⟩), .int .i64 0]) (by simp [results, Tryd.results17, go_sem, *]) rfl HE.out
        · refine (rotext_yes ⟨x1, x2, x3, x4, v5, -1⟩ _ ho).mono ?_
          rintro e wy ⟨rfl, hb⟩
          have J := Lib.hid (I2.out.keep hb)
          clear hb I2
          have HN : Hid (∀ o : Ord, oneB o = true → s.data.toList ≠ otxt o) := Lib.hid (fun o h he' => he (by rw [← read_otxt HX.out D5.out.day U6.out o h he']; exact he'))
          have HBL := Lib.hid J.out.2.2.2.2.2
          obtain ⟨_, ⟨v0, v1, v2, v3, v4, v5'⟩, fz⟩ := J.out.1
          have f0 := fz 0
          have f1 := fz 1
          have f2 := fz 2
          have f3 := fz 3
          have f4 := fz 4
          have f5 := fz 5
          clear fz
          obtain ⟨_, ⟨u0, u1, u2, u3, u4, u5⟩, _⟩ := J.out.2.2.1
          have bn := bytes_ne (x := ⟨(otxt ⟨x1, x2, x3, x4, v5, -1⟩).toArray⟩) (y := s) (fun e => he (by rw [← e]))
          generalize (⟨(otxt ⟨x1, x2, x3, x4, v5, -1⟩).toArray⟩ : ByteArray) = T at *
          clear ho he
          go_wp2_with fail
          refine bodyPost_ret (v := .tuple #[.agg (encO zeroO), .int .i64 5]) (by simp [results, Tryd.results17, go_sem, zeroO, *]) rfl ⟨put6_below (o := zeroO) HBL.out (Nat.le_refl _), Or.inr ⟨HN.out, rfl⟩⟩
      have b6 : (x6.toList == [45]) = false := by rw [beq_eq_false_iff_ne, ByteArray.toList_eq]; exact h6
      have H6 := Lib.hid h6
      clear h6
      go_wp2_with fail
      refine (rdparse_any x6 _ z6).mono ?_
      rintro e _ ⟨rfl, v6, er6, rfl, D6⟩
      have U6 : Hid (UntIs x6 v6) := Lib.hid (Or.inr ⟨H6.out, D6.day⟩)
      rcases D6 with ⟨rfl, -⟩ | ⟨rfl, -, hno⟩
      · go_wp2_with fail
        have I2 := Lib.hid (I0.out.set v5 (v6))
        clear I0
        clear c0 c1 c2 c3 c4 c5 c6 u0 u1 u2 u3 u4 u5 g4 g5
        generalize (w3.setCell ⟨b, 4, none⟩ (.int .i64 v5)).setCell ⟨b, 5, none⟩ (.int .i64 (v6)) = w5 at *
        cases ho : oneB ⟨x1, x2, x3, x4, v5, v6⟩
        · refine (rotext_no ⟨x1, x2, x3, x4, v5, v6⟩ _ ⟨by dsimp only; omega, by dsimp only; omega, by dsimp only; omega, by dsimp only; omega⟩ ho).mono ?_
          rintro e wy ⟨rfl, hb⟩
          have J := Lib.hid (I2.out.keep hb)
          clear hb I2
          have HN : Hid (∀ o : Ord, oneB o = true → s.data.toList ≠ otxt o) := Lib.hid (fun o h he => by rw [read_otxt HX.out D5.out.day U6.out o h he] at h; rw [h] at ho; cases ho)
          have HBL := Lib.hid J.out.2.2.2.2.2
          obtain ⟨_, ⟨v0, v1, v2, v3, v4, v5'⟩, fz⟩ := J.out.1
          have f0 := fz 0
          have f1 := fz 1
          have f2 := fz 2
          have f3 := fz 3
          have f4 := fz 4
          have f5 := fz 5
          clear fz
          obtain ⟨_, ⟨u0, u1, u2, u3, u4, u5⟩, _⟩ := J.out.2.2.1
          clear ho
          go_wp2_with fail
          refine bodyPost_ret (v := .tuple #[.agg (encO zeroO), .int .i64 5]) (by simp [results, Tryd.results17, go_sem, zeroO, *]) rfl ⟨put6_below (o := zeroO) HBL.out (Nat.le_refl _), Or.inr ⟨HN.out, rfl⟩⟩
        by_cases he : s.data.toList = otxt ⟨x1, x2, x3, x4, v5, v6⟩
        · refine (rotext_yes ⟨x1, x2, x3, x4, v5, v6⟩ _ ho).mono ?_
          rintro e wy ⟨rfl, hb⟩
          have J := Lib.hid (I2.out.keep hb)
          clear hb I2
          have HE : Hid (FPost s w (.returned (.tuple #[.agg (encO ⟨x1, x2, x3, x4, v5, v6⟩), .int .i64 0])) (put6 wy w.heap.size ⟨x1, x2, x3, x4, v5, v6⟩)) := Lib.hid ⟨put6_below J.out.2.2.2.2.2 (Nat.le_refl _), Or.inl ⟨_, ho, he, rfl⟩⟩
          have hq : (⟨(otxt ⟨x1, x2, x3, x4, v5, v6⟩).toArray⟩ : ByteArray) = s := ByteArray.ext (by rw [← he])
          rw [hq]
          obtain ⟨_, ⟨v0, v1, v2, v3, v4, v5'⟩, fz⟩ := J.out.1
          have f0 := fz 0
          have f1 := fz 1
          have f2 := fz 2
          have f3 := fz 3
          have f4 := fz 4
          have f5 := fz 5
          clear fz
          obtain ⟨_, ⟨u0, u1, u2, u3, u4, u5⟩, _⟩ := J.out.2.2.1
          clear ho he hq
          go_wp2_with fail
          exact bodyPost_ret (v := .tuple #[.agg (encO ⟨x1, x2, x3, x4, v5, v6⟩), .int .i64 0]) (by simp [results, Tryd.results17, go_sem, *]) rfl HE.out
        · refine (rotext_yes ⟨x1, x2, x3, x4, v5, v6⟩ _ ho).mono ?_
          rintro e wy ⟨rfl, hb⟩
          have J := Lib.hid (I2.out.keep hb)
          clear hb I2
          have HN : Hid (∀ o : Ord, oneB o = true → s.data.toList ≠ otxt o) := Lib.hid (fun o h he' => he (by rw [← read_otxt HX.out D5.out.day U6.out o h he']; exact he'))
          have HBL := Lib.hid J.out.2.2.2.2.2
          obtain ⟨_, ⟨v0, v1, v2, v3, v4, v5'⟩, fz⟩ := J.out.1
          have f0 := fz 0
          have f1 := fz 1
          have f2 := fz 2
          have f3 := fz 3
          have f4 := fz 4
          have f5 := fz 5
          clear fz
          obtain ⟨_, ⟨u0, u1, u2, u3, u4, u5⟩, _⟩ := J.out.2.2.1
          have bn := bytes_ne (x := ⟨(otxt ⟨x1, x2, x3, x4, v5, v6⟩).toArray⟩) (y := s) (fun e => he (by rw [← e]))
          generalize (⟨(otxt ⟨x1, x2, x3, x4, v5, v6⟩).toArray⟩ : ByteArray) = T at *
          clear ho he
          go_wp2_with fail
          refine bodyPost_ret (v := .tuple #[.agg (encO zeroO), .int .i64 5]) (by simp [results, Tryd.results17, go_sem, zeroO, *]) rfl ⟨put6_below (o := zeroO) HBL.out (Nat.le_refl _), Or.inr ⟨HN.out, rfl⟩⟩
      · have HN := Lib.hid (DQ.no6 HX.out H6.out hno)
        clear hno
        go_wp2_with fail
        have I2 := Lib.hid (I0.out.set v5 (v6))
        clear I0
        clear c0 c1 c2 c3 c4 c5 c6 u0 u1 u2 u3 u4 u5 g4 g5
        generalize (w3.setCell ⟨b, 4, none⟩ (.int .i64 v5)).setCell ⟨b, 5, none⟩ (.int .i64 (v6)) = w5 at *
        cases ho : oneB ⟨x1, x2, x3, x4, v5, v6⟩
        · refine (rotext_no ⟨x1, x2, x3, x4, v5, v6⟩ _ ⟨by dsimp only; omega, by dsimp only; omega, by dsimp only; omega, by dsimp only; omega⟩ ho).mono ?_
          rintro e wy ⟨rfl, hb⟩
          have J := Lib.hid (I2.out.keep hb)
          clear hb I2
          have HBL := Lib.hid J.out.2.2.2.2.2
          obtain ⟨_, ⟨v0, v1, v2, v3, v4, v5'⟩, fz⟩ := J.out.1
          have f0 := fz 0
          have f1 := fz 1
          have f2 := fz 2
          have f3 := fz 3
          have f4 := fz 4
          have f5 := fz 5
          clear fz
          obtain ⟨_, ⟨u0, u1, u2, u3, u4, u5⟩, _⟩ := J.out.2.2.1
          clear ho
          go_wp2_with fail
          refine bodyPost_ret (v := .tuple #[.agg (encO zeroO), .int .i64 5]) (by simp [results, Tryd.results17, go_sem, zeroO, *]) rfl ⟨put6_below (o := zeroO) HBL.out (Nat.le_refl _), Or.inr ⟨HN.out, rfl⟩⟩
        · refine (rotext_yes ⟨x1, x2, x3, x4, v5, v6⟩ _ ho).mono ?_
          rintro e wy ⟨rfl, hb⟩
          have J := Lib.hid (I2.out.keep hb)
          clear hb I2
          have HBL := Lib.hid J.out.2.2.2.2.2
          obtain ⟨_, ⟨v0, v1, v2, v3, v4, v5'⟩, fz⟩ := J.out.1
          have f0 := fz 0
          have f1 := fz 1
          have f2 := fz 2
          have f3 := fz 3
          have f4 := fz 4
          have f5 := fz 5
          clear fz
          obtain ⟨_, ⟨u0, u1, u2, u3, u4, u5⟩, _⟩ := J.out.2.2.1
          clear ho
          go_wp2_with fail
          refine bodyPost_ret (v := .tuple #[.agg (encO zeroO), .int .i64 5]) (by simp [results, Tryd.results17, go_sem, zeroO, *]) rfl ⟨put6_below (o := zeroO) HBL.out (Nat.le_refl _), Or.inr ⟨HN.out, rfl⟩⟩
    · have HN := Lib.hid (DQ.no5 HX.out hno)
      clear hno
      by_cases h6 : x6.data.toList = [45]
      · have U6 : Hid (UntIs x6 (-1)) := Lib.hid (Or.inl ⟨h6, rfl⟩)
        obtain rfl : x6 = ⟨#[45]⟩ := ByteArray.ext (Array.toList_inj.1 h6)
        clear h6
        go_wp2_with fail
        have I2 := Lib.hid (I0.out.set v5 (-1))
        clear I0
        clear c0 c1 c2 c3 c4 c5 c6 u0 u1 u2 u3 u4 u5 g4 g5
        generalize (w3.setCell ⟨b, 4, none⟩ (.int .i64 v5)).setCell ⟨b, 5, none⟩ (.int .i64 (-1)) = w5 at *
        cases ho : oneB ⟨x1, x2, x3, x4, v5, -1⟩
        · refine (rotext_no ⟨x1, x2, x3, x4, v5, -1⟩ _ ⟨by dsimp only; omega, by dsimp only; omega, by dsimp only; omega, by dsimp only; omega⟩ ho).mono ?_
          rintro e wy ⟨rfl, hb⟩
          have J := Lib.hid (I2.out.keep hb)
          clear hb I2
          have HBL := Lib.hid J.out.2.2.2.2.2
          obtain ⟨_, ⟨v0, v1, v2, v3, v4, v5'⟩, fz⟩ := J.out.1
          have f0 := fz 0
          have f1 := fz 1
          have f2 := fz 2
          have f3 := fz 3
          have f4 := fz 4
          have f5 := fz 5
          clear fz
          obtain ⟨_, ⟨u0, u1, u2, u3, u4, u5⟩, _⟩ := J.out.2.2.1
          clear ho
          go_wp2_with fail
          refine bodyPost_ret (v := .tuple #[.agg (encO zeroO), .int .i64 5]) (by simp [results, Tryd.results17, go_sem, zeroO, *]) rfl ⟨put6_below (o := zeroO) HBL.out (Nat.le_refl _), Or.inr ⟨HN.out, rfl⟩⟩
        · refine (rotext_yes ⟨x1, x2, x3, x4, v5, -1⟩ _ ho).mono ?_
          rintro e wy ⟨rfl, hb⟩
          have J := Lib.hid (I2.out.keep hb)
          clear hb I2
          have HBL := Lib.hid J.out.2.2.2.2.2
          obtain ⟨_, ⟨v0, v1, v2, v3, v4, v5'⟩, fz⟩ := J.out.1
          have f0 := fz 0
          have f1 := fz 1
          have f2 := fz 2
          have f3 := fz 3
          have f4 := fz 4
          have f5 := fz 5
          clear fz
          obtain ⟨_, ⟨u0, u1, u2, u3, u4, u5⟩, _⟩ := J.out.2.2.1
          clear ho
          go_wp2_with fail
          refine bodyPost_ret (v := .tuple #[.agg (encO zeroO), .int .i64 5]) (by simp [results, Tryd.results17, go_sem, zeroO, *]) rfl ⟨put6_below (o := zeroO) HBL.out (Nat.le_refl _), Or.inr ⟨HN.out, rfl⟩⟩
      have b6 : (x6.toList == [45]) = false := by rw [beq_eq_false_iff_ne, ByteArray.toList_eq]; exact h6
      have H6 := Lib.hid h6
      clear h6
      go_wp2_with fail
      refine (rdparse_any x6 _ z6).mono ?_
      rintro e _ ⟨rfl, v6, er6, rfl, D6⟩
      have U6 : Hid (UntIs x6 v6) := Lib.hid (Or.inr ⟨H6.out, D6.day⟩)
      clear D6
      go_wp2_with fail
      have I2 := Lib.hid (I0.out.set v5 (v6))
      clear I0
      clear c0 c1 c2 c3 c4 c5 c6 u0 u1 u2 u3 u4 u5 g4 g5
      generalize (w3.setCell ⟨b, 4, none⟩ (.int .i64 v5)).setCell ⟨b, 5, none⟩ (.int .i64 (v6)) = w5 at *
      cases ho : oneB ⟨x1, x2, x3, x4, v5, v6⟩
      · refine (rotext_no ⟨x1, x2, x3, x4, v5, v6⟩ _ ⟨by dsimp only; omega, by dsimp only; omega, by dsimp only; omega, by dsimp only; omega⟩ ho).mono ?_
        rintro e wy ⟨rfl, hb⟩
        have J := Lib.hid (I2.out.keep hb)
        clear hb I2
        have HBL := Lib.hid J.out.2.2.2.2.2
        obtain ⟨_, ⟨v0, v1, v2, v3, v4, v5'⟩, fz⟩ := J.out.1
        have f0 := fz 0
        have f1 := fz 1
        have f2 := fz 2
        have f3 := fz 3
        have f4 := fz 4
        have f5 := fz 5
        clear fz
        obtain ⟨_, ⟨u0, u1, u2, u3, u4, u5⟩, _⟩ := J.out.2.2.1
        clear ho
        go_wp2_with fail
        refine bodyPost_ret (v := .tuple #[.agg (encO zeroO), .int .i64 5]) (by simp [results, Tryd.results17, go_sem, zeroO, *]) rfl ⟨put6_below (o := zeroO) HBL.out (Nat.le_refl _), Or.inr ⟨HN.out, rfl⟩⟩
      · refine (rotext_yes ⟨x1, x2, x3, x4, v5, v6⟩ _ ho).mono ?_
        rintro e wy ⟨rfl, hb⟩
        have J := Lib.hid (I2.out.keep hb)
        clear hb I2
        have HBL := Lib.hid J.out.2.2.2.2.2
        obtain ⟨_, ⟨v0, v1, v2, v3, v4, v5'⟩, fz⟩ := J.out.1
        have f0 := fz 0
        have f1 := fz 1
        have f2 := fz 2
        have f3 := fz 3
        have f4 := fz 4
        have f5 := fz 5
        clear fz
        obtain ⟨_, ⟨u0, u1, u2, u3, u4, u5⟩, _⟩ := J.out.2.2.1
        clear ho
        go_wp2_with fail
        refine bodyPost_ret (v := .tuple #[.agg (encO zeroO), .int .i64 5]) (by simp [results, Tryd.results17, go_sem, zeroO, *]) rfl ⟨put6_below (o := zeroO) HBL.out (Nat.le_refl _), Or.inr ⟨HN.out, rfl⟩⟩
  · have HN := Lib.hid (words_not hn h7 hw)
    have d1 : ((n : Int) == 7) = false := by rw [beq_eq_false_iff_ne]; omega
    clear hn hO hb hw h7 S1
    obtain ⟨_, ⟨v0, v1, v2, v3, v4, v5'⟩, fz⟩ := B2.out
    have f0 := fz 0
    have f1 := fz 1
    have f2 := fz 2
    have f3 := fz 3
    have f4 := fz 4
    have f5 := fz 5
    clear fz
    go_wp2_with fail
    refine bodyPost_ret (v := .tuple #[.agg (encO zeroO), .int .i64 5]) (by simp [results, Tryd.results17, go_sem, zeroO, *]) rfl ⟨put6_below (o := zeroO) HBL.out (Nat.le_refl _), Or.inr ⟨HN.out, rfl⟩⟩
end Go.Proofs.YtngbkdnkpolbfaaDoor
