/- The contract of Common. Under no condition. -/
import Derived.Test.YtjebbmnjegndkaaDoorO
import Derived.Deep.RegionHeld3
import Derived.Deep.DeepCutAuto
namespace Go.Proofs.YtjebbmnjegndkaaDoor
open Go.RowKit

/-- what Common returns -/
def cmB (p q : Int × Int) : Bool := prp p && prp q && decide (max p.1 q.1 < min (en p) (en q))
def cmP (p q : Int × Int) : Int × Int := if cmB p q = true then (max p.1 q.1, if 100000 < min (en p) (en q) then -1 else min (en p) (en q)) else (0, 0)
theorem Gr.frozen {w w' : World} (h : Gr w w') {b o : Nat} (hb : b < w.heap.size) (hc : w.frozen? ⟨b, o, none⟩ = false) : w'.frozen? ⟨b, o, none⟩ = false := by
  rw [h.below.frozen (p := ⟨b, o, none⟩) hb]; exact hc
theorem Gr.drewn (w : World) : Gr w w.drew := ⟨1, #[], by rw [Sort.grow_empty]; rfl⟩
theorem end_keep (f u : Int) (w : World) : Calls Tryd.prog 36 #[.agg #[.int .i64 f, .int .i64 u]] w fun e w' => e = .returned (.int .i64 (en (f, u))) ∧ (∀ b o v, w.cell? ⟨b, o, none⟩ = some v → w'.cell? ⟨b, o, none⟩ = some v) ∧ (∀ b o, b < w.heap.size → w'.cell? ⟨b, o, none⟩ = w.cell? ⟨b, o, none⟩) ∧ (∀ b o, b < w.heap.size → w'.frozen? ⟨b, o, none⟩ = w.frozen? ⟨b, o, none⟩) ∧ Gr w w' :=
  (end_any f u w).mono fun _ _ ⟨he, hg⟩ => ⟨he, fun _ _ _ hc => hg.cell (World.block_lt_of_cell? _ _ hc) hc, fun b o hb => hg.below.cell (p := ⟨b, o, none⟩) hb, fun b o hb => hg.below.frozen (p := ⟨b, o, none⟩) hb, hg⟩
/-- a new block that holds two numbers -/
def CR (W : World) (m n : Int) (s6 : Value) (wx : World) : Prop :=
  ∃ g, s6 = .pointer (some ⟨g, 0, none⟩) ∧ W.heap.size ≤ g ∧ g < wx.heap.size ∧ wx.cell? ⟨g, 0, none⟩ = some (.int .i64 m) ∧ wx.cell? ⟨g, 1, none⟩ = some (.int .i64 n) ∧ (∀ o, wx.frozen? ⟨g, o, none⟩ = false) ∧ Below W.heap.size W wx
theorem CR.last {W w2 : World} {m n : Int} (h : Gr W w2) : CR W m n (.pointer (some ⟨w2.heap.size, 0, none⟩)) (w2.alloc (.cells #[.int .i64 m, .int .i64 n] 41)) :=
  ⟨_, rfl, h.size, by simp, by simp, by simp, fun o => World.frozen?_alloc_at _ _ _ _ (by simp), h.below.alloc h.size _⟩
theorem CR.early {W wy w2 : World} {m n : Int} {a b : Value} {T : TypeId} (h : Gr W wy) (h2 : Gr (wy.alloc (.cells #[a, b] T)) w2) : CR W m n (.pointer (some ⟨wy.heap.size, 0, none⟩)) ((w2.setCell ⟨wy.heap.size, 0, none⟩ (.int .i64 m)).setCell ⟨wy.heap.size, 1, none⟩ (.int .i64 n)) := by
  have hs := h.size
  have hs2 := h2.size
  simp at hs2
  obtain ⟨x0, x1⟩ := h2.box
  have hb : Below W.heap.size W w2 := (h.below.alloc hs _).trans (h2.below.mono (by simp; omega))
  refine ⟨_, rfl, hs, by simp; omega, ?_, ?_, fun o => ?_, (hb.setCell (by exact hs) _).setCell (by exact hs) _⟩
  · rw [World.cell?_setCell_other _ _ _ _ (by simp)]
    exact World.cell?_setCell_same' _ _ _ (by rw [x0]; rfl)
  · exact World.cell?_setCell_same' _ _ _ (by rw [World.cell?_setCell_other _ _ _ _ (by simp), x1]; rfl)
  · rw [World.frozen?_setCell, World.frozen?_setCell, h2.below.frozen (p := ⟨wy.heap.size, o, none⟩) (by simp)]
    exact World.frozen?_alloc_at _ _ _ _ rfl

set_option maxHeartbeats 16000000 in
set_option maxRecDepth 100000 in
theorem common_any (f u f' u' : Int) (w : World) :
    Calls Tryd.prog 21 #[.agg #[.int .i64 f, .int .i64 u], .agg #[.int .i64 f', .int .i64 u']] w fun e w' => e = .returned (.tuple #[.agg #[.int .i64 (cmP (f, u) (f', u')).1, .int .i64 (cmP (f, u) (f', u')).2], .bool (cmB (f, u) (f', u'))]) ∧ Below w.heap.size w w' := by
  have P1 := Lib.hid (fun W => proper_any f u W)
  have P2 := Lib.hid (fun W => proper_any f' u' W)
  have C1 := Lib.hid (fun W => end_keep f u W)
  have C2 := Lib.hid (fun W => end_keep f' u' W)
  have HB' : Hid (cmB (f, u) (f', u') = (prp (f, u) && prp (f', u') && decide (max f f' < min (en (f, u)) (en (f', u'))))) := rfl
  have HP' : Hid (cmP (f, u) (f', u') = if cmB (f, u) (f', u') = true then (max f f', if 100000 < min (en (f, u)) (en (f', u')) then -1 else min (en (f, u)) (en (f', u'))) else (0, 0)) := rfl
  generalize en (f, u) = E at *
  generalize en (f', u') = E' at *
  generalize prp (f, u) = bp at *
  generalize prp (f', u') = bq at *
  generalize cmB (f, u) (f', u') = B at *
  generalize cmP (f, u) (f', u') = R at *
  go_enter Tryd.func21, Tryd.ntmps21
  go_wp2_with fail
  have g0 : Gr (w.alloc (.cells #[.int .i64 f, .int .i64 u] 41)) (((w.alloc (.cells #[.int .i64 f, .int .i64 u] 41)).alloc (.cells #[.int .i64 f', .int .i64 u'] 41)).alloc (.cells #[.int .i64 0, .int .i64 0] 41)) := (Gr.one _ _).alloc _
  have g1 : Gr ((w.alloc (.cells #[.int .i64 f, .int .i64 u] 41)).alloc (.cells #[.int .i64 f', .int .i64 u'] 41)) (((w.alloc (.cells #[.int .i64 f, .int .i64 u] 41)).alloc (.cells #[.int .i64 f', .int .i64 u'] 41)).alloc (.cells #[.int .i64 0, .int .i64 0] 41)) := Gr.one _ _
  have g2 := Gr.refl (((w.alloc (.cells #[.int .i64 f, .int .i64 u] 41)).alloc (.cells #[.int .i64 f', .int .i64 u'] 41)).alloc (.cells #[.int .i64 0, .int .i64 0] 41))
  have gw : Gr w (((w.alloc (.cells #[.int .i64 f, .int .i64 u] 41)).alloc (.cells #[.int .i64 f', .int .i64 u'] 41)).alloc (.cells #[.int .i64 0, .int .i64 0] 41)) := (Gr.one _ _).trans g0
  obtain ⟨x0, x1⟩ := g0.box
  obtain ⟨y0, y1⟩ := g1.box
  obtain ⟨z0, z1⟩ := g2.box
  have e1 : (w.alloc (.cells #[.int .i64 f, .int .i64 u] 41)).heap.size = w.heap.size + 1 := by simp
  have e2 : ((w.alloc (.cells #[.int .i64 f, .int .i64 u] 41)).alloc (.cells #[.int .i64 f', .int .i64 u'] 41)).heap.size = w.heap.size + 1 + 1 := by simp
  rw [e1] at y0 y1
  rw [e2] at z0 z1
  have hW : (((w.alloc (.cells #[.int .i64 f, .int .i64 u] 41)).alloc (.cells #[.int .i64 f', .int .i64 u'] 41)).alloc (.cells #[.int .i64 0, .int .i64 0] 41)).heap.size = w.heap.size + 1 + 1 + 1 := by simp
  have zf : ∀ o, (((w.alloc (.cells #[.int .i64 f, .int .i64 u] 41)).alloc (.cells #[.int .i64 f', .int .i64 u'] 41)).alloc (.cells #[.int .i64 0, .int .i64 0] 41)).frozen? ⟨w.heap.size + 1 + 1, o, none⟩ = false := fun o => World.frozen?_alloc_at _ _ _ _ (by simp)
  have GW := Lib.hid gw
  have HW := Lib.hid hW
  have ZF := Lib.hid zf
  clear g0 g1 g2 gw e1 e2 hW zf
  generalize (((w.alloc (.cells #[.int .i64 f, .int .i64 u] 41)).alloc (.cells #[.int .i64 f', .int .i64 u'] 41)).alloc (.cells #[.int .i64 0, .int .i64 0] 41)) = W at *
  go_cut [6] (fun s6 wx => CR W (max f f') (min E E') s6 wx)
  case first =>
    go_region_held3 (fun w' => w'.cell? ⟨w.heap.size, 0, none⟩ = some (.int .i64 f) ∧ w'.cell? ⟨w.heap.size, 1, none⟩ = some (.int .i64 u) ∧ w'.cell? ⟨w.heap.size + 1, 0, none⟩ = some (.int .i64 f') ∧ w'.cell? ⟨w.heap.size + 1, 1, none⟩ = some (.int .i64 u')) (first | (go_keep; done) | ((try dsimp only); refine ⟨?_, ?_, ?_, ?_⟩ <;> first | (simp [*]; done) | (refine Lib.cell?_alloc_some _ ?_; simp [*]; done) | ((have hW0 := HW.out); rw [World.cell?_setCell_other _ _ _ _ (by intro e; injection e with e1 e2; omega), World.cell?_setCell_other _ _ _ _ (by intro e; injection e with e1 e2; omega)]; simp [*]; done)))
      (first | (go_at_call_of 36 (Value.agg #[Value.int IntKind.i64 f, Value.int IntKind.i64 u]); refine (C1.out _).mono ?_; rintro e w1 ⟨rfl, hk1, hr1, hf1, hg1⟩; (have t0 := hk1 w.heap.size 0 (.int .i64 f) (by simp [*])); (have t1 := hk1 w.heap.size 1 (.int .i64 u) (by simp [*])); (have t2 := hk1 (w.heap.size + 1) 0 (.int .i64 f') (by simp [*])); (have t3 := hk1 (w.heap.size + 1) 1 (.int .i64 u') (by simp [*])); (have n1s := hg1.size); (try simp at n1s); (have n1 : W.heap.size ≤ w1.heap.size := by have := hg1.size; (try simp at this); omega); (have HG1 := Lib.hid hg1); (try (have hs1 := fun o => hr1 W.heap.size o (by first | (simp; done) | omega))); (try (have hz1 := fun o => hf1 W.heap.size o (by first | (simp; done) | omega))); clear hk1 hg1) | (go_at_call_of 36 (Value.agg #[Value.int IntKind.i64 f', Value.int IntKind.i64 u']); refine (C2.out _).mono ?_; rintro e w2 ⟨rfl, hk2, hr2, hf2, hg2⟩; (have t0 := hk2 w.heap.size 0 (.int .i64 f) (by simp [*])); (have t1 := hk2 w.heap.size 1 (.int .i64 u) (by simp [*])); (have t2 := hk2 (w.heap.size + 1) 0 (.int .i64 f') (by simp [*])); (have t3 := hk2 (w.heap.size + 1) 1 (.int .i64 u') (by simp [*])); (have n2s := hg2.size); (try simp at n2s); (have n2 : W.heap.size ≤ w2.heap.size := by have := hg2.size; (try simp at this); omega); (have HG2 := Lib.hid hg2); (try (have hs2 := fun o => hr2 W.heap.size o (by first | (simp; done) | omega))); (try (have hz2 := fun o => hf2 W.heap.size o (by first | (simp; done) | omega))); clear hk2 hg2))
    all_goals (go_wp2_with fail; go_meet; first | exact CR.last ((Gr.drewn _).trans (HG1.out.trans HG2.out)) | exact CR.early ((Gr.drewn _).trans HG1.out) HG2.out | exact CR.early (Gr.refl W) ((Gr.drewn _).trans (HG1.out.trans HG2.out)))
  case rest =>
    obtain ⟨g, rfl, hg1, hg2, q0, q1, qf, hB⟩ := hcut
    have hW := HW.out
    rw [← hB.cell (p := ⟨w.heap.size, 0, none⟩) (by show w.heap.size < _; omega)] at x0
    rw [← hB.cell (p := ⟨w.heap.size, 1, none⟩) (by show w.heap.size < _; omega)] at x1
    rw [← hB.cell (p := ⟨w.heap.size + 1, 0, none⟩) (by show w.heap.size + 1 < _; omega)] at y0
    rw [← hB.cell (p := ⟨w.heap.size + 1, 1, none⟩) (by show w.heap.size + 1 < _; omega)] at y1
    rw [← hB.cell (p := ⟨w.heap.size + 1 + 1, 0, none⟩) (by show w.heap.size + 1 + 1 < _; omega)] at z0
    rw [← hB.cell (p := ⟨w.heap.size + 1 + 1, 1, none⟩) (by show w.heap.size + 1 + 1 < _; omega)] at z1
    have zf0 := hB.frozen (p := ⟨w.heap.size + 1 + 1, 0, none⟩) (by show w.heap.size + 1 + 1 < _; omega)
    rw [ZF.out] at zf0
    have zf1 := hB.frozen (p := ⟨w.heap.size + 1 + 1, 1, none⟩) (by show w.heap.size + 1 + 1 < _; omega)
    rw [ZF.out] at zf1
    have hs := hB.size
    have hgn : w.heap.size + 1 + 1 < g := by omega
    have hgl : w.heap.size + 1 + 1 < wc.heap.size := by omega
    have HQ := Lib.hid qf
    have HBB := Lib.hid (GW.out.below.trans (hB.mono GW.out.size))
    clear hW hg1 hB hs HW ZF qf C1 C2 GW
    go_wp2_with fail
    refine (P1.out _).mono ?_
    rintro e w3 ⟨rfl, hg3⟩
    replace x0 := hg3.cell (by omega) x0
    replace x1 := hg3.cell (by omega) x1
    replace y0 := hg3.cell (by omega) y0
    replace y1 := hg3.cell (by omega) y1
    replace z0 := hg3.cell hgl z0
    replace z1 := hg3.cell hgl z1
    replace q0 := hg3.cell hg2 q0
    replace q1 := hg3.cell hg2 q1
    replace zf0 := hg3.frozen hgl zf0
    replace zf1 := hg3.frozen hgl zf1
    have qf1 := hg3.frozen hg2 (HQ.out 1)
    have hs3 := hg3.size
    have HB3 := Lib.hid (HBB.out.trans (hg3.below.mono HBB.out.size))
    clear hg3 HQ HBB
    generalize max f f' = F at *
    generalize min E E' = T at *
    cases bp with
    | false =>
      have hB0 : B = false := by rw [HB'.out]; rfl
      have hR0 : R = (0, 0) := by rw [HP'.out, hB0]; rfl
      subst hB0 hR0
      clear HB' HP'
      go_wp2_with fail
      refine bodyPost_ret (v := .tuple #[.agg #[.int .i64 0, .int .i64 0], .bool false]) (by simp [results, Tryd.results21, go_sem, *]) rfl ⟨rfl, ?_⟩
      exact (HB3.out.setCell (by show _ ≤ w.heap.size + 1 + 1; omega) _).setCell (by show _ ≤ w.heap.size + 1 + 1; omega) _
    | true =>
      go_wp2_with fail
      refine (P2.out _).mono ?_
      rintro e w4 ⟨rfl, hg4⟩
      replace x0 := hg4.cell (by omega) x0
      replace x1 := hg4.cell (by omega) x1
      replace y0 := hg4.cell (by omega) y0
      replace y1 := hg4.cell (by omega) y1
      replace z0 := hg4.cell (by omega) z0
      replace z1 := hg4.cell (by omega) z1
      replace q0 := hg4.cell (by omega) q0
      replace q1 := hg4.cell (by omega) q1
      replace zf0 := hg4.frozen (by omega) zf0
      replace zf1 := hg4.frozen (by omega) zf1
      replace qf1 := hg4.frozen (by omega) qf1
      have HB4 := Lib.hid (HB3.out.trans (hg4.below.mono HB3.out.size))
      clear hg4 HB3 P1 P2
      cases bq with
      | false =>
        have hB0 : B = false := by rw [HB'.out]; rfl
        have hR0 : R = (0, 0) := by rw [HP'.out, hB0]; rfl
        subst hB0 hR0
        clear HB' HP'
        go_wp2_with fail
        refine bodyPost_ret (v := .tuple #[.agg #[.int .i64 0, .int .i64 0], .bool false]) (by simp [results, Tryd.results21, go_sem, *]) rfl ⟨rfl, ?_⟩
        exact (HB4.out.setCell (by show _ ≤ w.heap.size + 1 + 1; omega) _).setCell (by show _ ≤ w.heap.size + 1 + 1; omega) _
      | true =>
        by_cases c : F < T
        · have hB0 : B = true := by rw [HB'.out]; simp [c]
          have c' : decide (T ≤ F) = false := by simp; omega
          have hgne : g ≠ w.heap.size + 1 + 1 := by omega
          by_cases d : 100000 < T
          · have hR0 : R = (F, -1) := by rw [HP'.out, hB0, if_pos rfl, if_pos d]
            subst hB0 hR0
            clear HB' HP'
            go_wp2_with fail
            refine bodyPost_ret (v := .tuple #[.agg #[.int .i64 F, .int .i64 (-1)], .bool true]) (by simp [results, Tryd.results21, go_sem, *]) rfl ⟨rfl, ?_⟩
            exact ((HB4.out.setCell (by show _ ≤ g; omega) _).setCell (by show _ ≤ w.heap.size + 1 + 1; omega) _).setCell (by show _ ≤ w.heap.size + 1 + 1; omega) _
          · have hR0 : R = (F, T) := by rw [HP'.out, hB0, if_pos rfl, if_neg d]
            subst hB0 hR0
            clear HB' HP'
            go_wp2_with fail
            refine bodyPost_ret (v := .tuple #[.agg #[.int .i64 F, .int .i64 T], .bool true]) (by simp [results, Tryd.results21, go_sem, *]) rfl ⟨rfl, ?_⟩
            exact (HB4.out.setCell (by show _ ≤ w.heap.size + 1 + 1; omega) _).setCell (by show _ ≤ w.heap.size + 1 + 1; omega) _
        · have hB0 : B = false := by rw [HB'.out]; simp [c]
          have hR0 : R = (0, 0) := by rw [HP'.out, hB0]; rfl
          subst hB0 hR0
          clear HB' HP'
          go_wp2_with fail
          refine bodyPost_ret (v := .tuple #[.agg #[.int .i64 0, .int .i64 0], .bool false]) (by simp [results, Tryd.results21, go_sem, *]) rfl ⟨rfl, ?_⟩
          exact (HB4.out.setCell (by show _ ≤ w.heap.size + 1 + 1; omega) _).setCell (by show _ ≤ w.heap.size + 1 + 1; omega) _
end Go.Proofs.YtjebbmnjegndkaaDoor
