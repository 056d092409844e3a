/- The contracts of Settle's closure and of greatest. Under no condition but sizes. -/
import Derived.Test.YtngbkdnkpolbfaaDoorFD
namespace Go.Proofs.YtngbkdnkpolbfaaDoor
open Go.RowKit Go.Maps

/-- a block of one order that may be written -/
def Blk6 (w : World) (b : Nat) (o : Ord) : Prop := b < w.heap.size ∧ At6 w b 0 o ∧ ∀ j, w.frozen? ⟨b, j, none⟩ = false
theorem Blk6.made (w : World) (o : Ord) (T : TypeId) : Blk6 (w.alloc (.cells (encO o) T)) w.heap.size o :=
  ⟨by simp, At6.made w o T, fun _ => World.frozen?_alloc_at _ _ _ _ (by simp)⟩
theorem Blk6.below {w w' : World} {b : Nat} {o : Ord} (h : Blk6 w b o) (hb : Below w.heap.size w w') : Blk6 w' b o :=
  ⟨Nat.lt_of_lt_of_le h.1 hb.size, h.2.1.below hb h.1, fun j => (hb.frozen (p := ⟨b, j, none⟩) h.1).trans (h.2.2 j)⟩
theorem Blk6.keep {w w' : World} {b : Nat} {o : Ord} (h : Blk6 w b o) (hg : Gr w w') : Blk6 w' b o := h.below hg.below
/-- all cells of an order written -/
def put6 (w : World) (b : Nat) (o : Ord) : World := (((((w.setCell ⟨b, 0, none⟩ (.string o.id)).setCell ⟨b, 1, none⟩ (.string o.pn)).setCell ⟨b, 2, none⟩ (.string o.fr)).setCell ⟨b, 3, none⟩ (.string o.to)).setCell ⟨b, 4, none⟩ (.int .i64 o.pf)).setCell ⟨b, 5, none⟩ (.int .i64 o.pu)
theorem set_same {w : World} {a : Addr} {v v' : Value} (h : w.cell? a = some v) : (w.setCell a v').cell? a = some v' := World.cell?_setCell_same' _ _ _ (by rw [h]; rfl)
theorem set_keep {w : World} {b j k : Nat} {v v' : Value} (h : w.cell? ⟨b, j, none⟩ = some v) (hne : j ≠ k) : (w.setCell ⟨b, k, none⟩ v').cell? ⟨b, j, none⟩ = some v := by
  rw [World.cell?_setCell_other _ _ _ _ (by intro e; injection e with e1 e2; omega)]; exact h
theorem Blk6.put {w : World} {b : Nat} {p o : Ord} (h : Blk6 w b p) : Blk6 (put6 w b o) b o := by
  obtain ⟨h1, ⟨c0, c1, c2, c3, c4, c5⟩, h3⟩ := h
  refine ⟨by simpa [put6] using h1, ⟨?_, ?_, ?_, ?_, ?_, ?_⟩, fun j => by simpa [put6] using h3 j⟩
  · exact set_keep (set_keep (set_keep (set_keep (set_keep (set_same c0) (by omega)) (by omega)) (by omega)) (by omega)) (by omega)
  · exact set_keep (set_keep (set_keep (set_keep (set_same (set_keep c1 (by omega))) (by omega)) (by omega)) (by omega)) (by omega)
  · exact set_keep (set_keep (set_keep (set_same (set_keep (set_keep c2 (by omega)) (by omega))) (by omega)) (by omega)) (by omega)
  · exact set_keep (set_keep (set_same (set_keep (set_keep (set_keep c3 (by omega)) (by omega)) (by omega))) (by omega)) (by omega)
  · exact set_keep (set_same (set_keep (set_keep (set_keep (set_keep c4 (by omega)) (by omega)) (by omega)) (by omega))) (by omega)
  · exact set_same (set_keep (set_keep (set_keep (set_keep (set_keep c5 (by omega)) (by omega)) (by omega)) (by omega)) (by omega))
theorem set_far {w : World} {b b' j k : Nat} {v' : Value} (hne : b ≠ b') : (w.setCell ⟨b', k, none⟩ v').cell? ⟨b, j, none⟩ = w.cell? ⟨b, j, none⟩ :=
  World.cell?_setCell_other _ _ _ _ (by intro e; injection e with e1 e2; omega)
theorem put6_far {w : World} {b b' : Nat} {o : Ord} (hne : b ≠ b') (j : Nat) : (put6 w b' o).cell? ⟨b, j, none⟩ = w.cell? ⟨b, j, none⟩ := by
  unfold put6
  rw [set_far hne, set_far hne, set_far hne, set_far hne, set_far hne, set_far hne]
theorem Blk6.aside {w : World} {b b' : Nat} {p o : Ord} (h : Blk6 w b p) (hne : b ≠ b') : Blk6 (put6 w b' o) b p := by
  obtain ⟨h1, ⟨c0, c1, c2, c3, c4, c5⟩, h3⟩ := h
  refine ⟨by simpa [put6] using h1, ⟨?_, ?_, ?_, ?_, ?_, ?_⟩, fun j => by simpa [put6] using h3 j⟩ <;> rw [put6_far hne] <;> assumption
theorem put6_below {B : Nat} {W w : World} {b : Nat} {o : Ord} (h : Below B W w) (hb : B ≤ b) : Below B W (put6 w b o) := by
  unfold put6
  exact (((((h.setCell hb _).setCell hb _).setCell hb _).setCell hb _).setCell hb _).setCell hb _
set_option maxHeartbeats 1000000 in
theorem clos_any (a b : Ord) (w : World) : Calls Tryd.prog 30 #[.agg (encO a), .agg (encO b)] w fun e w' => e = .returned (.bool (nwB a b)) ∧ Gr w w' := by
  have HN := Lib.hid (fun W => newer_any a b W)
  generalize nwB a b = B at *
  go_enter Tryd.func30, Tryd.ntmps30
  go_wp2_with fail
  refine (HN.out _).mono ?_
  rintro e w1 ⟨rfl, hg⟩
  have HG := Lib.hid (((Gr.one w _).alloc _).trans hg)
  clear hg
  go_wp2_with fail
  go_ret
  exact ⟨rfl, HG.out⟩
theorem clos_at {a b : Ord} {r : Bool} (h : nwB a b = r) (w : World) : Calls Tryd.prog 30 #[.agg (encO a), .agg (encO b)] w fun e w' => e = .returned (.bool r) ∧ Gr w w' := by
  rw [← h]; exact clos_any a b w
/-- no order -/
def zeroO : Ord := ⟨⟨#[]⟩, ⟨#[]⟩, ⟨#[]⟩, ⟨#[]⟩, 0, 0⟩
/-- what holds at the head of a round of greatest -/
def GRel (w : World) (p : Ord) (l : List Ord) (k : Nat) (wr : World) : Prop := Blk6 wr w.heap.size zeroO ∧ Blk6 wr (w.heap.size + 1) (best nwB p (l.take k)) ∧ Below w.heap.size w wr
set_option maxHeartbeats 8000000 in
set_option maxRecDepth 100000 in
theorem great_any (b off c : Nat) (p : Ord) (l : List Ord) (w : World) (hb : b < w.heap.size) (hr : ∀ j (h : j < (p :: l).length), At6 w b (off + j * 6) (p :: l)[j]) (hl : l.length ≤ 1000) (hc : l.length + 1 ≤ c) :
    Calls Tryd.prog 29 #[.slice (some ⟨b, off, none⟩) (l.length + 1) c, .func (.func 30) #[] #[]] w fun e w' => e = .returned (.agg (encO (best nwB p l))) ∧ Below w.heap.size w w' := by
  have HR := Lib.hid (show ∀ j (h : j < l.length), At6 w b (off + 6 + j * 6) l[j] from fun j h => by have := hr (j + 1) (by simpa using h); rw [show off + (j + 1) * 6 = off + 6 + j * 6 by omega] at this; exact this)
  obtain ⟨c0, c1, c2, c3, c4, c5⟩ := hr 0 (by simp)
  simp only [Nat.zero_mul, Nat.add_zero, List.getElem_cons_zero] at c0 c1 c2 c3 c4 c5
  clear hr
  have HZ := Lib.hid ((Blk6.made w zeroO 26).keep (Gr.one _ (.cells (encO p) 26)))
  have HP0 : Hid (Blk6 ((w.alloc (.cells (encO zeroO) 26)).alloc (.cells (encO p) 26)) (w.heap.size + 1) p) := Lib.hid (by simpa using Blk6.made (w.alloc (.cells (encO zeroO) 26)) p 26)
  have HB0 := Lib.hid ((Gr.one w (.cells (encO zeroO) 26)).alloc (.cells (encO p) 26)).below
  have HBL := Lib.hid (fun k (h : k < l.length) => show best nwB p (l.take (k + 1)) = if nwB l[k] (best nwB p (l.take k)) = true then l[k] else best nwB p (l.take k) by rw [List.take_succ_eq_append_getElem h, best_snoc])
  have HBT := Lib.hid (show best nwB p (l.take l.length) = best nwB p l by rw [List.take_length])
  generalize best nwB p l = R at *
  by_cases h1 : c = 1
  · obtain rfl : l = [] := List.eq_nil_of_length_eq_zero (by omega)
    subst h1
    clear hc hl HR HBL
    obtain rfl : p = R := HBT.out
    clear HBT
    go_enter Tryd.func29, Tryd.ntmps29
    go_wp2_with fail
    go_loopw [7, 14] (fun _x iv wr => iv = .int .i64 0 ∧ Hid (GRel w p [] 0 wr)) (fun _ _ _ => 0)
    case atStart => exact ⟨rfl, Lib.hid ⟨HZ.out, HP0.out, HB0.out⟩⟩
    case round =>
      clear HZ HP0 HB0 c0 c1 c2 c3 c4 c5
      obtain ⟨rfl, HG⟩ := hrel
      obtain ⟨g1, g2, g3⟩ := HG.out
      have HG3 := Lib.hid g3
      obtain ⟨_, ⟨y0, y1, y2, y3, y4, y5⟩, _⟩ := (show Blk6 wr (w.heap.size + 1) p from g2)
      obtain ⟨_, ⟨v0, v1, v2, v3, v4, v5⟩, fz⟩ := g1
      have f0 := fz 0
      have f1 := fz 1
      have f2 := fz 2
      have f3 := fz 3
      have f4 := fz 4
      have f5 := fz 5
      clear fz g3 g2 HG
      go_wp2_with fail
      refine bodyPost_ret (v := .agg (encO p)) (by simp [results, Tryd.results29, go_sem, *]) rfl ⟨rfl, ?_⟩
      exact put6_below HG3.out (Nat.le_refl _)
  · go_enter Tryd.func29, Tryd.ntmps29
    go_wp2_with fail
    go_loopw [7, 14] (fun _x iv wr => ∃ k : Nat, k ≤ l.length ∧ iv = .int .i64 k ∧ Hid (GRel w p l k wr)) (fun _ i _ => l.length - (intOf i).toNat)
    case atStart => exact ⟨0, by omega, rfl, Lib.hid ⟨HZ.out, HP0.out, HB0.out⟩⟩
    case round =>
      clear HZ HP0 HB0 c0 c1 c2 c3 c4 c5
      obtain ⟨k, hk, rfl, HG⟩ := hrel
      obtain ⟨g1, g2, g3⟩ := HG.out
      have HG1 := Lib.hid g1
      have HG2 := Lib.hid g2
      have HG3 := Lib.hid g3
      by_cases hlt : k < l.length
      · obtain ⟨x0, x1, x2, x3, x4, x5⟩ := (HR.out k hlt).below g3 hb
        have HN := Lib.hid (HBL.out k hlt)
        clear HR HBL HG
        obtain ⟨o, ho⟩ : ∃ o, l[k] = o := ⟨_, rfl⟩
        rw [ho] at x0 x1 x2 x3 x4 x5 HN
        clear ho
        obtain ⟨q, hq⟩ : ∃ q, best nwB p (l.take k) = q := ⟨_, rfl⟩
        rw [hq] at HN HG2 g2
        clear hq
        obtain ⟨y, ⟨y0, y1, y2, y3, y4, y5⟩, _⟩ := g2
        clear g1 g3
        have HGA := Lib.hid (Gr.one wr (.cells (encO o) 26))
        cases hn : nwB o q
        · have HNN : Hid (best nwB p (l.take (k + 1)) = q) := Lib.hid (by rw [HN.out, hn]; rfl)
          go_wp2_with fail
          refine (clos_at hn _).mono ?_
          rintro e w1 ⟨rfl, hg⟩
          have hw := HGA.out.trans hg
          have H1 := Lib.hid (HG1.out.keep hw)
          have H2 := Lib.hid (HG2.out.keep hw)
          have H3 := Lib.hid (HG3.out.trans (hw.below.mono HG3.out.size))
          clear hg hw
          go_wp2_with fail
          go_roundw
          case rel => exact ⟨k + 1, by omega, by go_num, Lib.hid ⟨H1.out, by rw [HNN.out]; exact H2.out, H3.out⟩⟩
          case measure => simp [intOf]; omega
        · have HNN : Hid (best nwB p (l.take (k + 1)) = o) := Lib.hid (by rw [HN.out, hn]; rfl)
          go_wp2_with fail
          refine (clos_at hn _).mono ?_
          rintro e w1 ⟨rfl, hg⟩
          have hw := HGA.out.trans hg
          have H1 := Lib.hid (HG1.out.keep hw)
          have H2 := Lib.hid (HG2.out.keep hw)
          have H3 := Lib.hid (HG3.out.trans (hw.below.mono HG3.out.size))
          obtain ⟨u0, u1, u2, u3, u4, u5⟩ := (At6.made wr o 26).below hg.below (by simp)
          obtain ⟨_, ⟨v0, v1, v2, v3, v4, v5⟩, fz⟩ := H2.out
          have f0 := fz 0
          have f1 := fz 1
          have f2 := fz 2
          have f3 := fz 3
          have f4 := fz 4
          have f5 := fz 5
          clear hg hw fz
          go_wp2_with fail
          go_roundw
          case rel => exact ⟨k + 1, by omega, by go_num, Lib.hid ⟨H1.out.aside (o := o) (by omega), by rw [HNN.out]; exact H2.out.put, put6_below H3.out (by omega)⟩⟩
          case measure => simp [intOf]; omega
      · obtain rfl : k = l.length := by omega
        rw [HBT.out] at g2
        obtain ⟨_, ⟨y0, y1, y2, y3, y4, y5⟩, _⟩ := g2
        obtain ⟨_, ⟨v0, v1, v2, v3, v4, v5⟩, fz⟩ := g1
        have f0 := fz 0
        have f1 := fz 1
        have f2 := fz 2
        have f3 := fz 3
        have f4 := fz 4
        have f5 := fz 5
        clear fz g3 HR HBL HG HG1 HG2
        go_wp2_with fail
        refine bodyPost_ret (v := .agg (encO R)) (by simp [results, Tryd.results29, go_sem, *]) rfl ⟨rfl, ?_⟩
        exact put6_below HG3.out (Nat.le_refl _)
end Go.Proofs.YtngbkdnkpolbfaaDoor
