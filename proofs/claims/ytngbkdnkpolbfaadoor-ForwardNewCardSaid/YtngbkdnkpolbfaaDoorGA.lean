/- The walk of the law ForwardNew. Under the condition that the tables lie in memory as the program lays them. -/
import Derived.Test.YtngbkdnkpolbfaaDoorGT
import Derived.Deep.RegionHeld3
import Derived.Deep.AppendLies
import Derived.Laws.OwnMore
import Derived.Maps.AppendAt
namespace Go.Proofs.YtngbkdnkpolbfaaDoor
open Go.RowKit Go.Maps

/-- append of orders that came in, whatever they are, to orders of the call's own -/
theorem run_app6 (w : World) (base n c : Nat) (v : Value) (xs : List Value) (A : Option Addr) (l : List Ord) (hown : w.ownsRow base 26 6 v n xs) (hr : RdO w A l) (hl : l.length * 80 ≤ 140737488351232) (hn : n ≤ 10) (hc : l.length ≤ c) (hA : A = Option.none → c = 0) (hb : base ≤ w.heap.size) (ty : TypeId) :
    ∃ v' w', (Builtin.append_ #[22, 22] ty #[v, .slice A l.length c]).run Tryd.prog w = .ok v' w' ∧ w'.ownsRow base 26 6 v' (n + l.length) (xs ++ flatO l) ∧ w.grownBy w' v.ownBlock ∧ (v'.ownBlock = v.ownBlock ∨ v'.ownBlock = some w.heap.size) := by
  obtain ⟨i26, hi26, ha26, hb26, hc26⟩ := info_parts info26
  cases A with
  | none =>
    have h0 := hA rfl
    subst h0
    obtain rfl : l = [] := List.eq_nil_of_length_eq_zero (by omega)
    refine ⟨v, w, run_append_owned_none w base 22 ty 26 i26 6 Tryd.underlying22 hi26 v n xs hown, by simpa [flatO] using hown, ⟨rfl, rfl, rfl, Nat.le_refl _, fun _ _ _ => rfl⟩, Or.inl rfl⟩
  | some a =>
    have hcell : ∀ j u, (flatO l)[j]? = some u → w.cell? (a.add j) = some u := by
      rcases hr with rfl | ⟨b, off, e, _, hcc⟩
      · intro j u h; simp [flatO] at h
      · injection e with e; subst e; exact flat_cells hcc
    obtain ⟨v', w', h1, h2, h3, _, h5⟩ := run_append_own_at (P := Tryd.prog) w base 22 ty 26 i26 _ 6 80 Tryd.underlying22 hi26 ha26 hb26 hc26 rfl (by decide) v n xs hown a l.length c (flatO l) (flatO_len l) hcell (flat_one l) (by unfold maxLen; omega) (by omega) hb
    exact ⟨v', w', h1, h2, h3, h5⟩
/-- the same at a step of a region that draws -/
theorem step_app6 {ops : Array Oper} {o : Oper} {a : Act} {K : Act → World → Prop} {Q : Exit → Act → World → Prop} {E : Prop} (w : World) (hgd : o.guard = Option.none) (s x : Operand)
    (ho : o.op = .call { callee := .builtin .append, args := #[s, x], argTypes := #[22, 22] })
    (base n c : Nat) (v : Value) (xs : List Value) (A : Option Addr) (l : List Ord) (hs : a.eval s = v) (hx : a.eval x = .slice A l.length c) (hown : w.ownsRow base 26 6 v n xs) (hr : RdO w A l) (hl : l.length * 80 ≤ 140737488351232) (hn : n ≤ 10) (hc : l.length ≤ c) (hA : A = Option.none → c = 0) (hb : base ≤ w.heap.size)
    (h : ∀ v' w', w'.ownsRow base 26 6 v' (n + l.length) (xs ++ flatO l) → w.grownBy w' v.ownBlock → (v'.ownBlock = v.ownBlock ∨ v'.ownBlock = some w.heap.size) → K (a.put o.dst v') w') :
    if Region.wanted o (yielded ops a.tmps) = true then Oper.wp Tryd.prog o a w K Q else E := by
  have hw : Region.wanted o (yielded ops a.tmps) = true := by simp [Region.wanted, hgd]
  rw [if_pos hw]
  obtain ⟨v', w', h1, h2, h3, h4⟩ := run_app6 w base n c v xs A l hown hr hl hn hc hA hb o.type
  unfold Oper.wp execOp
  simp only [ho, resolve, invoke, builtin, Sem.run_bind, Sem.run_pure, Result.andThen_ok, List.map_toArray, List.map_cons, List.map_nil, hs, hx, h1]
  exact h v' w' h2 h3 h4
/-- the cells of an order as an array -/
abbrev C6 (o : Ord) : Array Value := #[.string o.id, .string o.pn, .string o.fr, .string o.to, .int .i64 o.pf, .int .i64 o.pu]
/-- a world with an empty row that was made behind w -/
def NS (w W : World) (g : Nat) : Prop := Gr w W ∧ W.ownsRow w.heap.size 26 6 (.slice (some ⟨g, 0, Option.none⟩) 0 0) 0 [] ∧ w.heap.size ≤ g ∧ w.heap.size ≤ W.heap.size
theorem NS.s1 (w : World) : NS w ((w.alloc (.cells #[] 26)).drew) w.heap.size :=
  ⟨(Gr.one _ _).trans (Gr.drewn _), own_below (World.ownsRow_made w #[] 0 (Nat.le_refl _) (by decide) (by simp)) (Gr.drewn _).below, Nat.le_refl _, ((Gr.one w _).trans (Gr.drewn _)).size⟩
theorem NS.s2 (w : World) (o : Ord) : NS w (((w.alloc (.cells #[] 26)).alloc (.cells (C6 o) 26)).drew) w.heap.size :=
  ⟨((Gr.one _ _).alloc _).trans (Gr.drewn _), own_below (World.ownsRow_made w #[] 0 (Nat.le_refl _) (by decide) (by simp)) ((Gr.one _ _).trans (Gr.drewn _)).below, Nat.le_refl _, (((Gr.one w _).alloc _).trans (Gr.drewn _)).size⟩
theorem NS.s3 (w : World) (o : Ord) : NS w (((w.alloc (.cells (C6 o) 26)).alloc (.cells #[] 26)).drew) (w.heap.size + 1) :=
  ⟨((Gr.one _ _).alloc _).trans (Gr.drewn _), own_below (by have k := World.ownsRow_made (w.alloc (.cells (C6 o) 26)) #[] 0 (base := w.heap.size) (e := 26) (size := 6) (by simp) (by decide) (by simp); simpa using k) (Gr.drewn _).below, by omega, (((Gr.one w _).alloc _).trans (Gr.drewn _)).size⟩
theorem NB.s2 (w : World) (o : Ord) : ∀ j u, (flatO [o])[j]? = some u → (((w.alloc (.cells #[] 26)).alloc (.cells (C6 o) 26)).drew).cell? ((⟨w.heap.size + 1, 0, Option.none⟩ : Addr).add j) = some u := by
  intro j u hu
  have k := news6 (w := w.alloc (.cells #[] 26)) hu
  simpa using k
theorem NB.s3 (w : World) (o : Ord) : ∀ j u, (flatO [o])[j]? = some u → (((w.alloc (.cells (C6 o) 26)).alloc (.cells #[] 26)).drew).cell? ((⟨w.heap.size, 0, Option.none⟩ : Addr).add j) = some u := by
  intro j u hu
  have k := cell_on (news6 (w := w) hu) (.cells #[] 26)
  simpa using k
theorem news_grown {w wy : World} {row : Option Nat} {F : List Value} {b : Nat} (hg : w.grownBy wy row) (hb : b < w.heap.size) (hne : some b ≠ row) (h : ∀ j u, F[j]? = some u → w.cell? ((⟨b, 0, Option.none⟩ : Addr).add j) = some u) : ∀ j u, F[j]? = some u → wy.cell? ((⟨b, 0, Option.none⟩ : Addr).add j) = some u := by
  intro j u hu
  have k := h j u hu
  rw [add_lit] at k ⊢
  rw [grown_cell hg hb hne]; exact k
/-- what is known behind the first append -/
def NX (w x : World) (v : Value) (l : List Ord) : Prop := x.ownsRow w.heap.size 26 6 v l.length (flatO l) ∧ Below w.heap.size w x
theorem NS.app {w W x : World} {g : Nat} {v : Value} {l : List Ord} (h : NS w W g) (ho : x.ownsRow w.heap.size 26 6 v (0 + l.length) ([] ++ flatO l)) (hg : W.grownBy x (Value.slice (some ⟨g, 0, Option.none⟩) 0 0).ownBlock) : NX w x v l := by
  refine ⟨by simpa using ho, h.1.below.grown hg h.2.2.2 (fun k hk => ?_)⟩
  have : g = k := by simpa [Value.ownBlock] using hk
  have := h.2.2.1
  omega
theorem NX.gr {w x y : World} {v : Value} {l : List Ord} (h : NX w x v l) (g : Gr x y) : NX w y v l := ⟨own_below h.1 g.below, h.2.trans (g.below.mono h.2.size)⟩
theorem NX.app {w x y : World} {v : Value} {l : List Ord} {o : Ord} {g cap : Nat} (h : NX w x v l) (ho : y.ownsRow w.heap.size 26 6 (.slice (some ⟨g, 0, Option.none⟩) (l.length + 1) cap) (l.length + 1) (flatO l ++ flatO [o])) (hg : x.grownBy y v.ownBlock) : OwnO y w.heap.size g cap (l ++ [o]) ∧ Below w.heap.size w y := by
  refine ⟨by unfold OwnO; rw [flatO_app, List.length_append]; exact ho, h.2.grown hg h.2.size (fun k hk => (own_lt h.1 hk).1)⟩
set_option maxRecDepth 100000 in
set_option maxHeartbeats 16000000 in
theorem new_few (A : Option Addr) (c : Nat) (l : List Ord) (o : Ord) (day : Int) (w : World) (HL : Hid (LaidT w)) (HR : Hid (RdO w A l)) (hc : l.length ≤ c) (HA0 : Hid (A = Option.none → c = 0)) (hl : l.length * 80 ≤ 140737488351232) (HF : Hid (fewB (l ++ [o]) = false)) : Calls Tryd.prog 7 #[.slice A l.length c, .agg (encO o), .int .i64 day] w (Yes w) := by
  have mixed : Tryd.prog.follows .mixedOrders = true := by kernel_rfl
  go_enter Tryd.func7, Tryd.ntmps7
  go_wp2_with fail
  have hb := (Gr.one w (.cells (encO o) 26)).below
  have T1 := Lib.hid hb
  have R1 := Lib.hid (HR.out.keep hb)
  have O1 := Lib.hid (Bx.made w o 26)
  clear hb
  generalize w.alloc (.cells (encO o) 26) = w1 at *
  refine (head_any _ (HL.out.keep T1.out)).mono ?_
  rintro e w2 ⟨rfl, hb⟩
  have T2 := Lib.hid (T1.out.trans (hb.mono T1.out.size))
  have R2 := Lib.hid (R1.out.keep hb)
  have O2 := Lib.hid (O1.out.keep hb)
  clear T1 R1 O1 hb
  obtain ⟨_, ⟨q0, q1, q2, q3, q4, q5⟩, _⟩ := O2.out
  simp only [Nat.zero_add] at q1 q2 q3 q4 q5
  obtain ⟨i26, hi26, ha26, hb26, hc26⟩ := info_parts info26
  have hwz : w.heap.size < w2.heap.size := O2.out.1
  go_wp2_with fail
  go_region_held3 (fun w' => w'.cell? ⟨w.heap.size, 0, none⟩ = some (.string o.id) ∧ w'.cell? ⟨w.heap.size, 1, none⟩ = some (.string o.pn) ∧ w'.cell? ⟨w.heap.size, 2, none⟩ = some (.string o.fr) ∧ w'.cell? ⟨w.heap.size, 3, none⟩ = some (.string o.to) ∧ w'.cell? ⟨w.heap.size, 4, none⟩ = some (.int .i64 o.pf) ∧ w'.cell? ⟨w.heap.size, 5, none⟩ = some (.int .i64 o.pu)) (first | (go_keep; done) | ((try dsimp only); refine ⟨?_, ?_, ?_, ?_, ?_, ?_⟩ <;> (simp [*]; done)))
    (first
      | (refine step_app6 _ (by rfl) (.tmp 19) (.tmp 20) (by rfl) w2.heap.size 0 c (.slice (some ⟨w2.heap.size, 0, Option.none⟩) 0 0) [] A l (by rfl) (by rfl) (by exact (NS.s1 w2).2.1) (R2.out.keep (NS.s1 w2).1.below) hl (by omega) hc HA0.out (NS.s1 w2).2.2.2 ?_; intro v1 x1 ho1 hg1 hl1; (have t0 := (grown_cell hg1 (b := w.heap.size) (k := 0) (by simp; try omega) (by simp [Value.ownBlock]; try omega)).trans (show _ = some (.string o.id) by simp [*])); (have t1 := (grown_cell hg1 (b := w.heap.size) (k := 1) (by simp; try omega) (by simp [Value.ownBlock]; try omega)).trans (show _ = some (.string o.pn) by simp [*])); (have t2 := (grown_cell hg1 (b := w.heap.size) (k := 2) (by simp; try omega) (by simp [Value.ownBlock]; try omega)).trans (show _ = some (.string o.fr) by simp [*])); (have t3 := (grown_cell hg1 (b := w.heap.size) (k := 3) (by simp; try omega) (by simp [Value.ownBlock]; try omega)).trans (show _ = some (.string o.to) by simp [*])); (have t4 := (grown_cell hg1 (b := w.heap.size) (k := 4) (by simp; try omega) (by simp [Value.ownBlock]; try omega)).trans (show _ = some (.int .i64 o.pf) by simp [*])); (have t5 := (grown_cell hg1 (b := w.heap.size) (k := 5) (by simp; try omega) (by simp [Value.ownBlock]; try omega)).trans (show _ = some (.int .i64 o.pu) by simp [*])); (have NX1 := Lib.hid ((NS.s1 w2).app ho1 hg1)); clear ho1 hg1 hl1)
      | (refine step_app6 _ (by rfl) (.tmp 19) (.tmp 20) (by rfl) w2.heap.size 0 c (.slice (some ⟨w2.heap.size, 0, Option.none⟩) 0 0) [] A l (by rfl) (by rfl) (by exact (NS.s2 w2 o).2.1) (R2.out.keep (NS.s2 w2 o).1.below) hl (by omega) hc HA0.out (NS.s2 w2 o).2.2.2 ?_; intro v1 x1 ho1 hg1 hl1; (have t0 := (grown_cell hg1 (b := w.heap.size) (k := 0) (by simp; try omega) (by simp [Value.ownBlock]; try omega)).trans (show _ = some (.string o.id) by simp [*])); (have t1 := (grown_cell hg1 (b := w.heap.size) (k := 1) (by simp; try omega) (by simp [Value.ownBlock]; try omega)).trans (show _ = some (.string o.pn) by simp [*])); (have t2 := (grown_cell hg1 (b := w.heap.size) (k := 2) (by simp; try omega) (by simp [Value.ownBlock]; try omega)).trans (show _ = some (.string o.fr) by simp [*])); (have t3 := (grown_cell hg1 (b := w.heap.size) (k := 3) (by simp; try omega) (by simp [Value.ownBlock]; try omega)).trans (show _ = some (.string o.to) by simp [*])); (have t4 := (grown_cell hg1 (b := w.heap.size) (k := 4) (by simp; try omega) (by simp [Value.ownBlock]; try omega)).trans (show _ = some (.int .i64 o.pf) by simp [*])); (have t5 := (grown_cell hg1 (b := w.heap.size) (k := 5) (by simp; try omega) (by simp [Value.ownBlock]; try omega)).trans (show _ = some (.int .i64 o.pu) by simp [*])); (have NX1 := Lib.hid ((NS.s2 w2 o).app ho1 hg1)); (have NB1 := Lib.hid (news_grown hg1 (by simp; try omega) (by simp [Value.ownBlock]; try omega) (NB.s2 w2 o))); clear ho1 hg1 hl1)
      | (refine step_app6 _ (by rfl) (.tmp 19) (.tmp 20) (by rfl) w2.heap.size 0 c (.slice (some ⟨w2.heap.size + 1, 0, Option.none⟩) 0 0) [] A l (by rfl) (by rfl) (by exact (NS.s3 w2 o).2.1) (R2.out.keep (NS.s3 w2 o).1.below) hl (by omega) hc HA0.out (NS.s3 w2 o).2.2.2 ?_; intro v1 x1 ho1 hg1 hl1; (have t0 := (grown_cell hg1 (b := w.heap.size) (k := 0) (by simp; try omega) (by simp [Value.ownBlock]; try omega)).trans (show _ = some (.string o.id) by simp [*])); (have t1 := (grown_cell hg1 (b := w.heap.size) (k := 1) (by simp; try omega) (by simp [Value.ownBlock]; try omega)).trans (show _ = some (.string o.pn) by simp [*])); (have t2 := (grown_cell hg1 (b := w.heap.size) (k := 2) (by simp; try omega) (by simp [Value.ownBlock]; try omega)).trans (show _ = some (.string o.fr) by simp [*])); (have t3 := (grown_cell hg1 (b := w.heap.size) (k := 3) (by simp; try omega) (by simp [Value.ownBlock]; try omega)).trans (show _ = some (.string o.to) by simp [*])); (have t4 := (grown_cell hg1 (b := w.heap.size) (k := 4) (by simp; try omega) (by simp [Value.ownBlock]; try omega)).trans (show _ = some (.int .i64 o.pf) by simp [*])); (have t5 := (grown_cell hg1 (b := w.heap.size) (k := 5) (by simp; try omega) (by simp [Value.ownBlock]; try omega)).trans (show _ = some (.int .i64 o.pu) by simp [*])); (have NX1 := Lib.hid ((NS.s3 w2 o).app ho1 hg1)); (have NB1 := Lib.hid (news_grown hg1 (by simp; try omega) (by simp [Value.ownBlock]; try omega) (NB.s3 w2 o))); clear ho1 hg1 hl1)
      | (refine step_append_lies _ (by rfl) (.tmp 21) (.tmp 23) 22 (by rfl) w2.heap.size 26 i26 _ 6 80 Tryd.underlying22 hi26 ha26 hb26 hc26 rfl (by decide) v1 l.length (flatO l) (by rfl) (by exact (NX1.out).1) _ 1 1 (flatO [o]) (by rfl) (by rfl) (by exact NB1.out) (flat_one _) (by decide) (by unfold maxLen; omega) (by omega) (NX1.out).2.size _ rfl ?_; intro g2 cap2 w7 ho2 hg2 hl2 hm2; (have N7 := Lib.hid ((NX1.out).app ho2 hg2)); (have s0 := (N7.out.2.cell (p := ⟨w.heap.size, 0, Option.none⟩) hwz).trans q0); (have s1 := (N7.out.2.cell (p := ⟨w.heap.size, 1, Option.none⟩) hwz).trans q1); (have s2 := (N7.out.2.cell (p := ⟨w.heap.size, 2, Option.none⟩) hwz).trans q2); (have s3 := (N7.out.2.cell (p := ⟨w.heap.size, 3, Option.none⟩) hwz).trans q3); (have s4 := (N7.out.2.cell (p := ⟨w.heap.size, 4, Option.none⟩) hwz).trans q4); (have s5 := (N7.out.2.cell (p := ⟨w.heap.size, 5, Option.none⟩) hwz).trans q5); clear ho2 hg2 hl2 hm2)
      | (refine step_append_lies _ (by rfl) (.tmp 21) (.tmp 23) 22 (by rfl) w2.heap.size 26 i26 _ 6 80 Tryd.underlying22 hi26 ha26 hb26 hc26 rfl (by decide) v1 l.length (flatO l) (by rfl) (by exact (NX1.out.gr (Gr.one _ (.cells (C6 o) 26))).1) _ 1 1 (flatO [o]) (by rfl) (by rfl) (by exact (fun j u hu => news6 hu)) (flat_one _) (by decide) (by unfold maxLen; omega) (by omega) (NX1.out.gr (Gr.one _ (.cells (C6 o) 26))).2.size _ rfl ?_; intro g2 cap2 w7 ho2 hg2 hl2 hm2; (have N7 := Lib.hid ((NX1.out.gr (Gr.one _ (.cells (C6 o) 26))).app ho2 hg2)); (have s0 := (N7.out.2.cell (p := ⟨w.heap.size, 0, Option.none⟩) hwz).trans q0); (have s1 := (N7.out.2.cell (p := ⟨w.heap.size, 1, Option.none⟩) hwz).trans q1); (have s2 := (N7.out.2.cell (p := ⟨w.heap.size, 2, Option.none⟩) hwz).trans q2); (have s3 := (N7.out.2.cell (p := ⟨w.heap.size, 3, Option.none⟩) hwz).trans q3); (have s4 := (N7.out.2.cell (p := ⟨w.heap.size, 4, Option.none⟩) hwz).trans q4); (have s5 := (N7.out.2.cell (p := ⟨w.heap.size, 5, Option.none⟩) hwz).trans q5); clear ho2 hg2 hl2 hm2))
  all_goals
    have N := Lib.hid (show NI w A l o w2.heap.size g2 cap2 w7 from ⟨(R2.out.keep (N7.out.2.mono (Nat.le_refl _))), O2.out.keep N7.out.2, N7.out.1, T2.out.trans (N7.out.2.mono (by omega))⟩)
    clear N7 NX1 hi26 ha26 hb26 hc26 q0 q1 q2 q3 q4 q5 t0 t1 t2 t3 t4 t5 s0 s1 s2 s3 s4 s5 R2 O2 T2
    go_wp2_with fail
    refine (few_n _ _ _ _ _ HF.out N.out.2.2.1.rd (by simp)).mono ?_
    rintro e _ ⟨rfl, rfl⟩
    go_wp2_with fail
    go_ret
    exact ⟨rfl, N.out.2.2.2⟩
set_option maxRecDepth 100000 in
set_option maxHeartbeats 16000000 in
theorem new_prp (A : Option Addr) (c : Nat) (l : List Ord) (o : Ord) (day : Int) (w : World) (HL : Hid (LaidT w)) (HR : Hid (RdO w A l)) (hc : l.length ≤ c) (HA0 : Hid (A = Option.none → c = 0)) (hl : l.length * 80 ≤ 140737488351232) (HF : Hid (fewB (l ++ [o]) = true)) (HPP : Hid (prpL (l ++ [o]) = false)) : Calls Tryd.prog 7 #[.slice A l.length c, .agg (encO o), .int .i64 day] w (Yes w) := by
  have mixed : Tryd.prog.follows .mixedOrders = true := by kernel_rfl
  go_enter Tryd.func7, Tryd.ntmps7
  go_wp2_with fail
  have hb := (Gr.one w (.cells (encO o) 26)).below
  have T1 := Lib.hid hb
  have R1 := Lib.hid (HR.out.keep hb)
  have O1 := Lib.hid (Bx.made w o 26)
  clear hb
  generalize w.alloc (.cells (encO o) 26) = w1 at *
  refine (head_any _ (HL.out.keep T1.out)).mono ?_
  rintro e w2 ⟨rfl, hb⟩
  have T2 := Lib.hid (T1.out.trans (hb.mono T1.out.size))
  have R2 := Lib.hid (R1.out.keep hb)
  have O2 := Lib.hid (O1.out.keep hb)
  clear T1 R1 O1 hb
  obtain ⟨_, ⟨q0, q1, q2, q3, q4, q5⟩, _⟩ := O2.out
  simp only [Nat.zero_add] at q1 q2 q3 q4 q5
  obtain ⟨i26, hi26, ha26, hb26, hc26⟩ := info_parts info26
  have hwz : w.heap.size < w2.heap.size := O2.out.1
  go_wp2_with fail
  go_region_held3 (fun w' => w'.cell? ⟨w.heap.size, 0, none⟩ = some (.string o.id) ∧ w'.cell? ⟨w.heap.size, 1, none⟩ = some (.string o.pn) ∧ w'.cell? ⟨w.heap.size, 2, none⟩ = some (.string o.fr) ∧ w'.cell? ⟨w.heap.size, 3, none⟩ = some (.string o.to) ∧ w'.cell? ⟨w.heap.size, 4, none⟩ = some (.int .i64 o.pf) ∧ w'.cell? ⟨w.heap.size, 5, none⟩ = some (.int .i64 o.pu)) (first | (go_keep; done) | ((try dsimp only); refine ⟨?_, ?_, ?_, ?_, ?_, ?_⟩ <;> (simp [*]; done)))
    (first
      | (refine step_app6 _ (by rfl) (.tmp 19) (.tmp 20) (by rfl) w2.heap.size 0 c (.slice (some ⟨w2.heap.size, 0, Option.none⟩) 0 0) [] A l (by rfl) (by rfl) (by exact (NS.s1 w2).2.1) (R2.out.keep (NS.s1 w2).1.below) hl (by omega) hc HA0.out (NS.s1 w2).2.2.2 ?_; intro v1 x1 ho1 hg1 hl1; (have t0 := (grown_cell hg1 (b := w.heap.size) (k := 0) (by simp; try omega) (by simp [Value.ownBlock]; try omega)).trans (show _ = some (.string o.id) by simp [*])); (have t1 := (grown_cell hg1 (b := w.heap.size) (k := 1) (by simp; try omega) (by simp [Value.ownBlock]; try omega)).trans (show _ = some (.string o.pn) by simp [*])); (have t2 := (grown_cell hg1 (b := w.heap.size) (k := 2) (by simp; try omega) (by simp [Value.ownBlock]; try omega)).trans (show _ = some (.string o.fr) by simp [*])); (have t3 := (grown_cell hg1 (b := w.heap.size) (k := 3) (by simp; try omega) (by simp [Value.ownBlock]; try omega)).trans (show _ = some (.string o.to) by simp [*])); (have t4 := (grown_cell hg1 (b := w.heap.size) (k := 4) (by simp; try omega) (by simp [Value.ownBlock]; try omega)).trans (show _ = some (.int .i64 o.pf) by simp [*])); (have t5 := (grown_cell hg1 (b := w.heap.size) (k := 5) (by simp; try omega) (by simp [Value.ownBlock]; try omega)).trans (show _ = some (.int .i64 o.pu) by simp [*])); (have NX1 := Lib.hid ((NS.s1 w2).app ho1 hg1)); clear ho1 hg1 hl1)
      | (refine step_app6 _ (by rfl) (.tmp 19) (.tmp 20) (by rfl) w2.heap.size 0 c (.slice (some ⟨w2.heap.size, 0, Option.none⟩) 0 0) [] A l (by rfl) (by rfl) (by exact (NS.s2 w2 o).2.1) (R2.out.keep (NS.s2 w2 o).1.below) hl (by omega) hc HA0.out (NS.s2 w2 o).2.2.2 ?_; intro v1 x1 ho1 hg1 hl1; (have t0 := (grown_cell hg1 (b := w.heap.size) (k := 0) (by simp; try omega) (by simp [Value.ownBlock]; try omega)).trans (show _ = some (.string o.id) by simp [*])); (have t1 := (grown_cell hg1 (b := w.heap.size) (k := 1) (by simp; try omega) (by simp [Value.ownBlock]; try omega)).trans (show _ = some (.string o.pn) by simp [*])); (have t2 := (grown_cell hg1 (b := w.heap.size) (k := 2) (by simp; try omega) (by simp [Value.ownBlock]; try omega)).trans (show _ = some (.string o.fr) by simp [*])); (have t3 := (grown_cell hg1 (b := w.heap.size) (k := 3) (by simp; try omega) (by simp [Value.ownBlock]; try omega)).trans (show _ = some (.string o.to) by simp [*])); (have t4 := (grown_cell hg1 (b := w.heap.size) (k := 4) (by simp; try omega) (by simp [Value.ownBlock]; try omega)).trans (show _ = some (.int .i64 o.pf) by simp [*])); (have t5 := (grown_cell hg1 (b := w.heap.size) (k := 5) (by simp; try omega) (by simp [Value.ownBlock]; try omega)).trans (show _ = some (.int .i64 o.pu) by simp [*])); (have NX1 := Lib.hid ((NS.s2 w2 o).app ho1 hg1)); (have NB1 := Lib.hid (news_grown hg1 (by simp; try omega) (by simp [Value.ownBlock]; try omega) (NB.s2 w2 o))); clear ho1 hg1 hl1)
      | (refine step_app6 _ (by rfl) (.tmp 19) (.tmp 20) (by rfl) w2.heap.size 0 c (.slice (some ⟨w2.heap.size + 1, 0, Option.none⟩) 0 0) [] A l (by rfl) (by rfl) (by exact (NS.s3 w2 o).2.1) (R2.out.keep (NS.s3 w2 o).1.below) hl (by omega) hc HA0.out (NS.s3 w2 o).2.2.2 ?_; intro v1 x1 ho1 hg1 hl1; (have t0 := (grown_cell hg1 (b := w.heap.size) (k := 0) (by simp; try omega) (by simp [Value.ownBlock]; try omega)).trans (show _ = some (.string o.id) by simp [*])); (have t1 := (grown_cell hg1 (b := w.heap.size) (k := 1) (by simp; try omega) (by simp [Value.ownBlock]; try omega)).trans (show _ = some (.string o.pn) by simp [*])); (have t2 := (grown_cell hg1 (b := w.heap.size) (k := 2) (by simp; try omega) (by simp [Value.ownBlock]; try omega)).trans (show _ = some (.string o.fr) by simp [*])); (have t3 := (grown_cell hg1 (b := w.heap.size) (k := 3) (by simp; try omega) (by simp [Value.ownBlock]; try omega)).trans (show _ = some (.string o.to) by simp [*])); (have t4 := (grown_cell hg1 (b := w.heap.size) (k := 4) (by simp; try omega) (by simp [Value.ownBlock]; try omega)).trans (show _ = some (.int .i64 o.pf) by simp [*])); (have t5 := (grown_cell hg1 (b := w.heap.size) (k := 5) (by simp; try omega) (by simp [Value.ownBlock]; try omega)).trans (show _ = some (.int .i64 o.pu) by simp [*])); (have NX1 := Lib.hid ((NS.s3 w2 o).app ho1 hg1)); (have NB1 := Lib.hid (news_grown hg1 (by simp; try omega) (by simp [Value.ownBlock]; try omega) (NB.s3 w2 o))); clear ho1 hg1 hl1)
      | (refine step_append_lies _ (by rfl) (.tmp 21) (.tmp 23) 22 (by rfl) w2.heap.size 26 i26 _ 6 80 Tryd.underlying22 hi26 ha26 hb26 hc26 rfl (by decide) v1 l.length (flatO l) (by rfl) (by exact (NX1.out).1) _ 1 1 (flatO [o]) (by rfl) (by rfl) (by exact NB1.out) (flat_one _) (by decide) (by unfold maxLen; omega) (by omega) (NX1.out).2.size _ rfl ?_; intro g2 cap2 w7 ho2 hg2 hl2 hm2; (have N7 := Lib.hid ((NX1.out).app ho2 hg2)); (have s0 := (N7.out.2.cell (p := ⟨w.heap.size, 0, Option.none⟩) hwz).trans q0); (have s1 := (N7.out.2.cell (p := ⟨w.heap.size, 1, Option.none⟩) hwz).trans q1); (have s2 := (N7.out.2.cell (p := ⟨w.heap.size, 2, Option.none⟩) hwz).trans q2); (have s3 := (N7.out.2.cell (p := ⟨w.heap.size, 3, Option.none⟩) hwz).trans q3); (have s4 := (N7.out.2.cell (p := ⟨w.heap.size, 4, Option.none⟩) hwz).trans q4); (have s5 := (N7.out.2.cell (p := ⟨w.heap.size, 5, Option.none⟩) hwz).trans q5); clear ho2 hg2 hl2 hm2)
      | (refine step_append_lies _ (by rfl) (.tmp 21) (.tmp 23) 22 (by rfl) w2.heap.size 26 i26 _ 6 80 Tryd.underlying22 hi26 ha26 hb26 hc26 rfl (by decide) v1 l.length (flatO l) (by rfl) (by exact (NX1.out.gr (Gr.one _ (.cells (C6 o) 26))).1) _ 1 1 (flatO [o]) (by rfl) (by rfl) (by exact (fun j u hu => news6 hu)) (flat_one _) (by decide) (by unfold maxLen; omega) (by omega) (NX1.out.gr (Gr.one _ (.cells (C6 o) 26))).2.size _ rfl ?_; intro g2 cap2 w7 ho2 hg2 hl2 hm2; (have N7 := Lib.hid ((NX1.out.gr (Gr.one _ (.cells (C6 o) 26))).app ho2 hg2)); (have s0 := (N7.out.2.cell (p := ⟨w.heap.size, 0, Option.none⟩) hwz).trans q0); (have s1 := (N7.out.2.cell (p := ⟨w.heap.size, 1, Option.none⟩) hwz).trans q1); (have s2 := (N7.out.2.cell (p := ⟨w.heap.size, 2, Option.none⟩) hwz).trans q2); (have s3 := (N7.out.2.cell (p := ⟨w.heap.size, 3, Option.none⟩) hwz).trans q3); (have s4 := (N7.out.2.cell (p := ⟨w.heap.size, 4, Option.none⟩) hwz).trans q4); (have s5 := (N7.out.2.cell (p := ⟨w.heap.size, 5, Option.none⟩) hwz).trans q5); clear ho2 hg2 hl2 hm2))
  all_goals
    have N := Lib.hid (show NI w A l o w2.heap.size g2 cap2 w7 from ⟨(R2.out.keep (N7.out.2.mono (Nat.le_refl _))), O2.out.keep N7.out.2, N7.out.1, T2.out.trans (N7.out.2.mono (by omega))⟩)
    clear N7 NX1 hi26 ha26 hb26 hc26 q0 q1 q2 q3 q4 q5 t0 t1 t2 t3 t4 t5 s0 s1 s2 s3 s4 s5 R2 O2 T2
    go_wp2_with fail
    refine (few_n _ _ _ _ _ HF.out N.out.2.2.1.rd (by simp)).mono ?_
    rintro e _ ⟨rfl, rfl⟩
    go_wp2_with fail
    refine (prop_n _ _ _ _ _ HPP.out HF.out N.out.2.2.1.rd (by simp)).mono ?_
    rintro e w8 ⟨rfl, hb⟩
    have N2 := Lib.hid (N.out.keep hb)
    clear hb N
    obtain ⟨_, ⟨q0, q1, q2, q3, q4, q5⟩, _⟩ := N2.out.2.1
    simp only [Nat.zero_add] at q1 q2 q3 q4 q5
    go_wp2_with fail
    go_ret
    exact ⟨rfl, N2.out.2.2.2⟩
set_option maxRecDepth 100000 in
set_option maxHeartbeats 16000000 in
theorem new_cov (A : Option Addr) (c : Nat) (l : List Ord) (o : Ord) (day : Int) (w : World) (HL : Hid (LaidT w)) (HR : Hid (RdO w A l)) (hc : l.length ≤ c) (HA0 : Hid (A = Option.none → c = 0)) (hl : l.length * 80 ≤ 140737488351232) (HF : Hid (fewB (l ++ [o]) = true)) (HPP : Hid (prpL (l ++ [o]) = true)) (HCV : Hid (cov (o.pf, o.pu) day = false)) : Calls Tryd.prog 7 #[.slice A l.length c, .agg (encO o), .int .i64 day] w (Yes w) := by
  have mixed : Tryd.prog.follows .mixedOrders = true := by kernel_rfl
  go_enter Tryd.func7, Tryd.ntmps7
  go_wp2_with fail
  have hb := (Gr.one w (.cells (encO o) 26)).below
  have T1 := Lib.hid hb
  have R1 := Lib.hid (HR.out.keep hb)
  have O1 := Lib.hid (Bx.made w o 26)
  clear hb
  generalize w.alloc (.cells (encO o) 26) = w1 at *
  refine (head_any _ (HL.out.keep T1.out)).mono ?_
  rintro e w2 ⟨rfl, hb⟩
  have T2 := Lib.hid (T1.out.trans (hb.mono T1.out.size))
  have R2 := Lib.hid (R1.out.keep hb)
  have O2 := Lib.hid (O1.out.keep hb)
  clear T1 R1 O1 hb
  obtain ⟨_, ⟨q0, q1, q2, q3, q4, q5⟩, _⟩ := O2.out
  simp only [Nat.zero_add] at q1 q2 q3 q4 q5
  obtain ⟨i26, hi26, ha26, hb26, hc26⟩ := info_parts info26
  have hwz : w.heap.size < w2.heap.size := O2.out.1
  go_wp2_with fail
  go_region_held3 (fun w' => w'.cell? ⟨w.heap.size, 0, none⟩ = some (.string o.id) ∧ w'.cell? ⟨w.heap.size, 1, none⟩ = some (.string o.pn) ∧ w'.cell? ⟨w.heap.size, 2, none⟩ = some (.string o.fr) ∧ w'.cell? ⟨w.heap.size, 3, none⟩ = some (.string o.to) ∧ w'.cell? ⟨w.heap.size, 4, none⟩ = some (.int .i64 o.pf) ∧ w'.cell? ⟨w.heap.size, 5, none⟩ = some (.int .i64 o.pu)) (first | (go_keep; done) | ((try dsimp only); refine ⟨?_, ?_, ?_, ?_, ?_, ?_⟩ <;> (simp [*]; done)))
    (first
      | (refine step_app6 _ (by rfl) (.tmp 19) (.tmp 20) (by rfl) w2.heap.size 0 c (.slice (some ⟨w2.heap.size, 0, Option.none⟩) 0 0) [] A l (by rfl) (by rfl) (by exact (NS.s1 w2).2.1) (R2.out.keep (NS.s1 w2).1.below) hl (by omega) hc HA0.out (NS.s1 w2).2.2.2 ?_; intro v1 x1 ho1 hg1 hl1; (have t0 := (grown_cell hg1 (b := w.heap.size) (k := 0) (by simp; try omega) (by simp [Value.ownBlock]; try omega)).trans (show _ = some (.string o.id) by simp [*])); (have t1 := (grown_cell hg1 (b := w.heap.size) (k := 1) (by simp; try omega) (by simp [Value.ownBlock]; try omega)).trans (show _ = some (.string o.pn) by simp [*])); (have t2 := (grown_cell hg1 (b := w.heap.size) (k := 2) (by simp; try omega) (by simp [Value.ownBlock]; try omega)).trans (show _ = some (.string o.fr) by simp [*])); (have t3 := (grown_cell hg1 (b := w.heap.size) (k := 3) (by simp; try omega) (by simp [Value.ownBlock]; try omega)).trans (show _ = some (.string o.to) by simp [*])); (have t4 := (grown_cell hg1 (b := w.heap.size) (k := 4) (by simp; try omega) (by simp [Value.ownBlock]; try omega)).trans (show _ = some (.int .i64 o.pf) by simp [*])); (have t5 := (grown_cell hg1 (b := w.heap.size) (k := 5) (by simp; try omega) (by simp [Value.ownBlock]; try omega)).trans (show _ = some (.int .i64 o.pu) by simp [*])); (have NX1 := Lib.hid ((NS.s1 w2).app ho1 hg1)); clear ho1 hg1 hl1)
      | (refine step_app6 _ (by rfl) (.tmp 19) (.tmp 20) (by rfl) w2.heap.size 0 c (.slice (some ⟨w2.heap.size, 0, Option.none⟩) 0 0) [] A l (by rfl) (by rfl) (by exact (NS.s2 w2 o).2.1) (R2.out.keep (NS.s2 w2 o).1.below) hl (by omega) hc HA0.out (NS.s2 w2 o).2.2.2 ?_; intro v1 x1 ho1 hg1 hl1; (have t0 := (grown_cell hg1 (b := w.heap.size) (k := 0) (by simp; try omega) (by simp [Value.ownBlock]; try omega)).trans (show _ = some (.string o.id) by simp [*])); (have t1 := (grown_cell hg1 (b := w.heap.size) (k := 1) (by simp; try omega) (by simp [Value.ownBlock]; try omega)).trans (show _ = some (.string o.pn) by simp [*])); (have t2 := (grown_cell hg1 (b := w.heap.size) (k := 2) (by simp; try omega) (by simp [Value.ownBlock]; try omega)).trans (show _ = some (.string o.fr) by simp [*])); (have t3 := (grown_cell hg1 (b := w.heap.size) (k := 3) (by simp; try omega) (by simp [Value.ownBlock]; try omega)).trans (show _ = some (.string o.to) by simp [*])); (have t4 := (grown_cell hg1 (b := w.heap.size) (k := 4) (by simp; try omega) (by simp [Value.ownBlock]; try omega)).trans (show _ = some (.int .i64 o.pf) by simp [*])); (have t5 := (grown_cell hg1 (b := w.heap.size) (k := 5) (by simp; try omega) (by simp [Value.ownBlock]; try omega)).trans (show _ = some (.int .i64 o.pu) by simp [*])); (have NX1 := Lib.hid ((NS.s2 w2 o).app ho1 hg1)); (have NB1 := Lib.hid (news_grown hg1 (by simp; try omega) (by simp [Value.ownBlock]; try omega) (NB.s2 w2 o))); clear ho1 hg1 hl1)
      | (refine step_app6 _ (by rfl) (.tmp 19) (.tmp 20) (by rfl) w2.heap.size 0 c (.slice (some ⟨w2.heap.size + 1, 0, Option.none⟩) 0 0) [] A l (by rfl) (by rfl) (by exact (NS.s3 w2 o).2.1) (R2.out.keep (NS.s3 w2 o).1.below) hl (by omega) hc HA0.out (NS.s3 w2 o).2.2.2 ?_; intro v1 x1 ho1 hg1 hl1; (have t0 := (grown_cell hg1 (b := w.heap.size) (k := 0) (by simp; try omega) (by simp [Value.ownBlock]; try omega)).trans (show _ = some (.string o.id) by simp [*])); (have t1 := (grown_cell hg1 (b := w.heap.size) (k := 1) (by simp; try omega) (by simp [Value.ownBlock]; try omega)).trans (show _ = some (.string o.pn) by simp [*])); (have t2 := (grown_cell hg1 (b := w.heap.size) (k := 2) (by simp; try omega) (by simp [Value.ownBlock]; try omega)).trans (show _ = some (.string o.fr) by simp [*])); (have t3 := (grown_cell hg1 (b := w.heap.size) (k := 3) (by simp; try omega) (by simp [Value.ownBlock]; try omega)).trans (show _ = some (.string o.to) by simp [*])); (have t4 := (grown_cell hg1 (b := w.heap.size) (k := 4) (by simp; try omega) (by simp [Value.ownBlock]; try omega)).trans (show _ = some (.int .i64 o.pf) by simp [*])); (have t5 := (grown_cell hg1 (b := w.heap.size) (k := 5) (by simp; try omega) (by simp [Value.ownBlock]; try omega)).trans (show _ = some (.int .i64 o.pu) by simp [*])); (have NX1 := Lib.hid ((NS.s3 w2 o).app ho1 hg1)); (have NB1 := Lib.hid (news_grown hg1 (by simp; try omega) (by simp [Value.ownBlock]; try omega) (NB.s3 w2 o))); clear ho1 hg1 hl1)
      | (refine step_append_lies _ (by rfl) (.tmp 21) (.tmp 23) 22 (by rfl) w2.heap.size 26 i26 _ 6 80 Tryd.underlying22 hi26 ha26 hb26 hc26 rfl (by decide) v1 l.length (flatO l) (by rfl) (by exact (NX1.out).1) _ 1 1 (flatO [o]) (by rfl) (by rfl) (by exact NB1.out) (flat_one _) (by decide) (by unfold maxLen; omega) (by omega) (NX1.out).2.size _ rfl ?_; intro g2 cap2 w7 ho2 hg2 hl2 hm2; (have N7 := Lib.hid ((NX1.out).app ho2 hg2)); (have s0 := (N7.out.2.cell (p := ⟨w.heap.size, 0, Option.none⟩) hwz).trans q0); (have s1 := (N7.out.2.cell (p := ⟨w.heap.size, 1, Option.none⟩) hwz).trans q1); (have s2 := (N7.out.2.cell (p := ⟨w.heap.size, 2, Option.none⟩) hwz).trans q2); (have s3 := (N7.out.2.cell (p := ⟨w.heap.size, 3, Option.none⟩) hwz).trans q3); (have s4 := (N7.out.2.cell (p := ⟨w.heap.size, 4, Option.none⟩) hwz).trans q4); (have s5 := (N7.out.2.cell (p := ⟨w.heap.size, 5, Option.none⟩) hwz).trans q5); clear ho2 hg2 hl2 hm2)
      | (refine step_append_lies _ (by rfl) (.tmp 21) (.tmp 23) 22 (by rfl) w2.heap.size 26 i26 _ 6 80 Tryd.underlying22 hi26 ha26 hb26 hc26 rfl (by decide) v1 l.length (flatO l) (by rfl) (by exact (NX1.out.gr (Gr.one _ (.cells (C6 o) 26))).1) _ 1 1 (flatO [o]) (by rfl) (by rfl) (by exact (fun j u hu => news6 hu)) (flat_one _) (by decide) (by unfold maxLen; omega) (by omega) (NX1.out.gr (Gr.one _ (.cells (C6 o) 26))).2.size _ rfl ?_; intro g2 cap2 w7 ho2 hg2 hl2 hm2; (have N7 := Lib.hid ((NX1.out.gr (Gr.one _ (.cells (C6 o) 26))).app ho2 hg2)); (have s0 := (N7.out.2.cell (p := ⟨w.heap.size, 0, Option.none⟩) hwz).trans q0); (have s1 := (N7.out.2.cell (p := ⟨w.heap.size, 1, Option.none⟩) hwz).trans q1); (have s2 := (N7.out.2.cell (p := ⟨w.heap.size, 2, Option.none⟩) hwz).trans q2); (have s3 := (N7.out.2.cell (p := ⟨w.heap.size, 3, Option.none⟩) hwz).trans q3); (have s4 := (N7.out.2.cell (p := ⟨w.heap.size, 4, Option.none⟩) hwz).trans q4); (have s5 := (N7.out.2.cell (p := ⟨w.heap.size, 5, Option.none⟩) hwz).trans q5); clear ho2 hg2 hl2 hm2))
  all_goals
    have N := Lib.hid (show NI w A l o w2.heap.size g2 cap2 w7 from ⟨(R2.out.keep (N7.out.2.mono (Nat.le_refl _))), O2.out.keep N7.out.2, N7.out.1, T2.out.trans (N7.out.2.mono (by omega))⟩)
    clear N7 NX1 hi26 ha26 hb26 hc26 q0 q1 q2 q3 q4 q5 t0 t1 t2 t3 t4 t5 s0 s1 s2 s3 s4 s5 R2 O2 T2
    go_wp2_with fail
    refine (few_n _ _ _ _ _ HF.out N.out.2.2.1.rd (by simp)).mono ?_
    rintro e _ ⟨rfl, rfl⟩
    go_wp2_with fail
    refine (prop_n _ _ _ _ _ HPP.out HF.out N.out.2.2.1.rd (by simp)).mono ?_
    rintro e w8 ⟨rfl, hb⟩
    have N2 := Lib.hid (N.out.keep hb)
    clear hb N
    obtain ⟨_, ⟨q0, q1, q2, q3, q4, q5⟩, _⟩ := N2.out.2.1
    simp only [Nat.zero_add] at q1 q2 q3 q4 q5
    go_wp2_with fail
    refine (covers_at HCV.out _).mono ?_
    rintro e w9 ⟨rfl, hg⟩
    have N3 := Lib.hid (N2.out.gr hg)
    clear hg N2
    clear q0 q1 q2 q3 q4 q5
    go_wp2_with fail
    go_ret
    exact ⟨rfl, N3.out.2.2.2⟩
set_option maxRecDepth 100000 in
set_option maxHeartbeats 16000000 in
theorem new_yes (A : Option Addr) (c : Nat) (l : List Ord) (o : Ord) (day : Int) (w : World) (HL : Hid (LaidT w)) (HR : Hid (RdO w A l)) (hc : l.length ≤ c) (HA0 : Hid (A = Option.none → c = 0)) (hl : l.length * 80 ≤ 140737488351232) (HF : Hid (fewB (l ++ [o]) = true)) (HPP : Hid (prpL (l ++ [o]) = true)) (HCV : Hid (cov (o.pf, o.pu) day = true)) : Calls Tryd.prog 7 #[.slice A l.length c, .agg (encO o), .int .i64 day] w (Yes w) := by
  have mixed : Tryd.prog.follows .mixedOrders = true := by kernel_rfl
  go_enter Tryd.func7, Tryd.ntmps7
  go_wp2_with fail
  have hb := (Gr.one w (.cells (encO o) 26)).below
  have T1 := Lib.hid hb
  have R1 := Lib.hid (HR.out.keep hb)
  have O1 := Lib.hid (Bx.made w o 26)
  clear hb
  generalize w.alloc (.cells (encO o) 26) = w1 at *
  refine (head_any _ (HL.out.keep T1.out)).mono ?_
  rintro e w2 ⟨rfl, hb⟩
  have T2 := Lib.hid (T1.out.trans (hb.mono T1.out.size))
  have R2 := Lib.hid (R1.out.keep hb)
  have O2 := Lib.hid (O1.out.keep hb)
  clear T1 R1 O1 hb
  obtain ⟨_, ⟨q0, q1, q2, q3, q4, q5⟩, _⟩ := O2.out
  simp only [Nat.zero_add] at q1 q2 q3 q4 q5
  obtain ⟨i26, hi26, ha26, hb26, hc26⟩ := info_parts info26
  have hwz : w.heap.size < w2.heap.size := O2.out.1
  go_wp2_with fail
  go_region_held3 (fun w' => w'.cell? ⟨w.heap.size, 0, none⟩ = some (.string o.id) ∧ w'.cell? ⟨w.heap.size, 1, none⟩ = some (.string o.pn) ∧ w'.cell? ⟨w.heap.size, 2, none⟩ = some (.string o.fr) ∧ w'.cell? ⟨w.heap.size, 3, none⟩ = some (.string o.to) ∧ w'.cell? ⟨w.heap.size, 4, none⟩ = some (.int .i64 o.pf) ∧ w'.cell? ⟨w.heap.size, 5, none⟩ = some (.int .i64 o.pu)) (first | (go_keep; done) | ((try dsimp only); refine ⟨?_, ?_, ?_, ?_, ?_, ?_⟩ <;> (simp [*]; done)))
    (first
      | (refine step_app6 _ (by rfl) (.tmp 19) (.tmp 20) (by rfl) w2.heap.size 0 c (.slice (some ⟨w2.heap.size, 0, Option.none⟩) 0 0) [] A l (by rfl) (by rfl) (by exact (NS.s1 w2).2.1) (R2.out.keep (NS.s1 w2).1.below) hl (by omega) hc HA0.out (NS.s1 w2).2.2.2 ?_; intro v1 x1 ho1 hg1 hl1; (have t0 := (grown_cell hg1 (b := w.heap.size) (k := 0) (by simp; try omega) (by simp [Value.ownBlock]; try omega)).trans (show _ = some (.string o.id) by simp [*])); (have t1 := (grown_cell hg1 (b := w.heap.size) (k := 1) (by simp; try omega) (by simp [Value.ownBlock]; try omega)).trans (show _ = some (.string o.pn) by simp [*])); (have t2 := (grown_cell hg1 (b := w.heap.size) (k := 2) (by simp; try omega) (by simp [Value.ownBlock]; try omega)).trans (show _ = some (.string o.fr) by simp [*])); (have t3 := (grown_cell hg1 (b := w.heap.size) (k := 3) (by simp; try omega) (by simp [Value.ownBlock]; try omega)).trans (show _ = some (.string o.to) by simp [*])); (have t4 := (grown_cell hg1 (b := w.heap.size) (k := 4) (by simp; try omega) (by simp [Value.ownBlock]; try omega)).trans (show _ = some (.int .i64 o.pf) by simp [*])); (have t5 := (grown_cell hg1 (b := w.heap.size) (k := 5) (by simp; try omega) (by simp [Value.ownBlock]; try omega)).trans (show _ = some (.int .i64 o.pu) by simp [*])); (have NX1 := Lib.hid ((NS.s1 w2).app ho1 hg1)); clear ho1 hg1 hl1)
      | (refine step_app6 _ (by rfl) (.tmp 19) (.tmp 20) (by rfl) w2.heap.size 0 c (.slice (some ⟨w2.heap.size, 0, Option.none⟩) 0 0) [] A l (by rfl) (by rfl) (by exact (NS.s2 w2 o).2.1) (R2.out.keep (NS.s2 w2 o).1.below) hl (by omega) hc HA0.out (NS.s2 w2 o).2.2.2 ?_; intro v1 x1 ho1 hg1 hl1; (have t0 := (grown_cell hg1 (b := w.heap.size) (k := 0) (by simp; try omega) (by simp [Value.ownBlock]; try omega)).trans (show _ = some (.string o.id) by simp [*])); (have t1 := (grown_cell hg1 (b := w.heap.size) (k := 1) (by simp; try omega) (by simp [Value.ownBlock]; try omega)).trans (show _ = some (.string o.pn) by simp [*])); (have t2 := (grown_cell hg1 (b := w.heap.size) (k := 2) (by simp; try omega) (by simp [Value.ownBlock]; try omega)).trans (show _ = some (.string o.fr) by simp [*])); (have t3 := (grown_cell hg1 (b := w.heap.size) (k := 3) (by simp; try omega) (by simp [Value.ownBlock]; try omega)).trans (show _ = some (.string o.to) by simp [*])); (have t4 := (grown_cell hg1 (b := w.heap.size) (k := 4) (by simp; try omega) (by simp [Value.ownBlock]; try omega)).trans (show _ = some (.int .i64 o.pf) by simp [*])); (have t5 := (grown_cell hg1 (b := w.heap.size) (k := 5) (by simp; try omega) (by simp [Value.ownBlock]; try omega)).trans (show _ = some (.int .i64 o.pu) by simp [*])); (have NX1 := Lib.hid ((NS.s2 w2 o).app ho1 hg1)); (have NB1 := Lib.hid (news_grown hg1 (by simp; try omega) (by simp [Value.ownBlock]; try omega) (NB.s2 w2 o))); clear ho1 hg1 hl1)
      | (refine step_app6 _ (by rfl) (.tmp 19) (.tmp 20) (by rfl) w2.heap.size 0 c (.slice (some ⟨w2.heap.size + 1, 0, Option.none⟩) 0 0) [] A l (by rfl) (by rfl) (by exact (NS.s3 w2 o).2.1) (R2.out.keep (NS.s3 w2 o).1.below) hl (by omega) hc HA0.out (NS.s3 w2 o).2.2.2 ?_; intro v1 x1 ho1 hg1 hl1; (have t0 := (grown_cell hg1 (b := w.heap.size) (k := 0) (by simp; try omega) (by simp [Value.ownBlock]; try omega)).trans (show _ = some (.string o.id) by simp [*])); (have t1 := (grown_cell hg1 (b := w.heap.size) (k := 1) (by simp; try omega) (by simp [Value.ownBlock]; try omega)).trans (show _ = some (.string o.pn) by simp [*])); (have t2 := (grown_cell hg1 (b := w.heap.size) (k := 2) (by simp; try omega) (by simp [Value.ownBlock]; try omega)).trans (show _ = some (.string o.fr) by simp [*])); (have t3 := (grown_cell hg1 (b := w.heap.size) (k := 3) (by simp; try omega) (by simp [Value.ownBlock]; try omega)).trans (show _ = some (.string o.to) by simp [*])); (have t4 := (grown_cell hg1 (b := w.heap.size) (k := 4) (by simp; try omega) (by simp [Value.ownBlock]; try omega)).trans (show _ = some (.int .i64 o.pf) by simp [*])); (have t5 := (grown_cell hg1 (b := w.heap.size) (k := 5) (by simp; try omega) (by simp [Value.ownBlock]; try omega)).trans (show _ = some (.int .i64 o.pu) by simp [*])); (have NX1 := Lib.hid ((NS.s3 w2 o).app ho1 hg1)); (have NB1 := Lib.hid (news_grown hg1 (by simp; try omega) (by simp [Value.ownBlock]; try omega) (NB.s3 w2 o))); clear ho1 hg1 hl1)
      | (refine step_append_lies _ (by rfl) (.tmp 21) (.tmp 23) 22 (by rfl) w2.heap.size 26 i26 _ 6 80 Tryd.underlying22 hi26 ha26 hb26 hc26 rfl (by decide) v1 l.length (flatO l) (by rfl) (by exact (NX1.out).1) _ 1 1 (flatO [o]) (by rfl) (by rfl) (by exact NB1.out) (flat_one _) (by decide) (by unfold maxLen; omega) (by omega) (NX1.out).2.size _ rfl ?_; intro g2 cap2 w7 ho2 hg2 hl2 hm2; (have N7 := Lib.hid ((NX1.out).app ho2 hg2)); (have s0 := (N7.out.2.cell (p := ⟨w.heap.size, 0, Option.none⟩) hwz).trans q0); (have s1 := (N7.out.2.cell (p := ⟨w.heap.size, 1, Option.none⟩) hwz).trans q1); (have s2 := (N7.out.2.cell (p := ⟨w.heap.size, 2, Option.none⟩) hwz).trans q2); (have s3 := (N7.out.2.cell (p := ⟨w.heap.size, 3, Option.none⟩) hwz).trans q3); (have s4 := (N7.out.2.cell (p := ⟨w.heap.size, 4, Option.none⟩) hwz).trans q4); (have s5 := (N7.out.2.cell (p := ⟨w.heap.size, 5, Option.none⟩) hwz).trans q5); clear ho2 hg2 hl2 hm2)
      | (refine step_append_lies _ (by rfl) (.tmp 21) (.tmp 23) 22 (by rfl) w2.heap.size 26 i26 _ 6 80 Tryd.underlying22 hi26 ha26 hb26 hc26 rfl (by decide) v1 l.length (flatO l) (by rfl) (by exact (NX1.out.gr (Gr.one _ (.cells (C6 o) 26))).1) _ 1 1 (flatO [o]) (by rfl) (by rfl) (by exact (fun j u hu => news6 hu)) (flat_one _) (by decide) (by unfold maxLen; omega) (by omega) (NX1.out.gr (Gr.one _ (.cells (C6 o) 26))).2.size _ rfl ?_; intro g2 cap2 w7 ho2 hg2 hl2 hm2; (have N7 := Lib.hid ((NX1.out.gr (Gr.one _ (.cells (C6 o) 26))).app ho2 hg2)); (have s0 := (N7.out.2.cell (p := ⟨w.heap.size, 0, Option.none⟩) hwz).trans q0); (have s1 := (N7.out.2.cell (p := ⟨w.heap.size, 1, Option.none⟩) hwz).trans q1); (have s2 := (N7.out.2.cell (p := ⟨w.heap.size, 2, Option.none⟩) hwz).trans q2); (have s3 := (N7.out.2.cell (p := ⟨w.heap.size, 3, Option.none⟩) hwz).trans q3); (have s4 := (N7.out.2.cell (p := ⟨w.heap.size, 4, Option.none⟩) hwz).trans q4); (have s5 := (N7.out.2.cell (p := ⟨w.heap.size, 5, Option.none⟩) hwz).trans q5); clear ho2 hg2 hl2 hm2))
  all_goals
    have N := Lib.hid (show NI w A l o w2.heap.size g2 cap2 w7 from ⟨(R2.out.keep (N7.out.2.mono (Nat.le_refl _))), O2.out.keep N7.out.2, N7.out.1, T2.out.trans (N7.out.2.mono (by omega))⟩)
    clear N7 NX1 hi26 ha26 hb26 hc26 q0 q1 q2 q3 q4 q5 t0 t1 t2 t3 t4 t5 s0 s1 s2 s3 s4 s5 R2 O2 T2
    go_wp2_with fail
    refine (few_n _ _ _ _ _ HF.out N.out.2.2.1.rd (by simp)).mono ?_
    rintro e _ ⟨rfl, rfl⟩
    go_wp2_with fail
    refine (prop_n _ _ _ _ _ HPP.out HF.out N.out.2.2.1.rd (by simp)).mono ?_
    rintro e w8 ⟨rfl, hb⟩
    have N2 := Lib.hid (N.out.keep hb)
    clear hb N
    obtain ⟨_, ⟨q0, q1, q2, q3, q4, q5⟩, _⟩ := N2.out.2.1
    simp only [Nat.zero_add] at q1 q2 q3 q4 q5
    go_wp2_with fail
    refine (covers_at HCV.out _).mono ?_
    rintro e w9 ⟨rfl, hg⟩
    have N3 := Lib.hid (N2.out.gr hg)
    clear hg N2
    clear q0 q1 q2 q3 q4 q5
    have hl30 : l.length ≤ 30 := by have k := few_len HF.out; simp at k; omega
    go_wp2_with fail
    go_loopw [9] (fun iv wj => ∃ i : Nat, i ≤ l.length ∧ iv = .int .i64 i ∧ Hid (∀ j (h : j < l.length), j < i → nwB o l[j] = true) ∧ Hid (NI w A l o w2.heap.size g2 cap2 wj)) (fun i _ => l.length - (intOf i).toNat)
    case atStart => exact ⟨0, by omega, rfl, Lib.hid (fun j _ h => by omega), N3⟩
    case round =>
      clear N3
      obtain ⟨i, hi, rfl, HW, N4⟩ := hrel
      by_cases hlt : i < l.length
      · obtain ⟨b, off, rfl, hb, p0, p1, p2, p3, p4, p5⟩ := N4.out.1.at hlt
        obtain ⟨_, ⟨q0, q1, q2, q3, q4, q5⟩, _⟩ := N4.out.2.1
        simp only [Nat.zero_add] at q1 q2 q3 q4 q5
        have hbo := N4.out.2.1.1
        obtain ⟨q, hq⟩ : ∃ q, l[i] = q := ⟨_, rfl⟩
        rw [hq] at p0 p1 p2 p3 p4 p5
        have HQ := Lib.hid hq
        clear hq
        cases hnw : nwB o q
        · clear HW HQ
          have gr0 : ∀ n os, (Sort.grow (wr.drewN n) os).cell? ⟨w.heap.size, 0, none⟩ = some (.string o.id) := fun n os => cell_grown hbo (by assumption) n os
          have gr1 : ∀ n os, (Sort.grow (wr.drewN n) os).cell? ⟨w.heap.size, 1, none⟩ = some (.string o.pn) := fun n os => cell_grown hbo (by assumption) n os
          have gr2 : ∀ n os, (Sort.grow (wr.drewN n) os).cell? ⟨w.heap.size, 2, none⟩ = some (.string o.fr) := fun n os => cell_grown hbo (by assumption) n os
          have gr3 : ∀ n os, (Sort.grow (wr.drewN n) os).cell? ⟨w.heap.size, 3, none⟩ = some (.string o.to) := fun n os => cell_grown hbo (by assumption) n os
          have gr4 : ∀ n os, (Sort.grow (wr.drewN n) os).cell? ⟨w.heap.size, 4, none⟩ = some (.int .i64 o.pf) := fun n os => cell_grown hbo (by assumption) n os
          have gr5 : ∀ n os, (Sort.grow (wr.drewN n) os).cell? ⟨w.heap.size, 5, none⟩ = some (.int .i64 o.pu) := fun n os => cell_grown hbo (by assumption) n os
          have gr6 : ∀ n os, (Sort.grow (wr.drewN n) os).cell? ⟨b, off + i * 6, none⟩ = some (.string q.id) := fun n os => cell_grown hb (by assumption) n os
          have gr7 : ∀ n os, (Sort.grow (wr.drewN n) os).cell? ⟨b, off + i * 6 + 1, none⟩ = some (.string q.pn) := fun n os => cell_grown hb (by assumption) n os
          have gr8 : ∀ n os, (Sort.grow (wr.drewN n) os).cell? ⟨b, off + i * 6 + 2, none⟩ = some (.string q.fr) := fun n os => cell_grown hb (by assumption) n os
          have gr9 : ∀ n os, (Sort.grow (wr.drewN n) os).cell? ⟨b, off + i * 6 + 3, none⟩ = some (.string q.to) := fun n os => cell_grown hb (by assumption) n os
          have gr10 : ∀ n os, (Sort.grow (wr.drewN n) os).cell? ⟨b, off + i * 6 + 4, none⟩ = some (.int .i64 q.pf) := fun n os => cell_grown hb (by assumption) n os
          have gr11 : ∀ n os, (Sort.grow (wr.drewN n) os).cell? ⟨b, off + i * 6 + 5, none⟩ = some (.int .i64 q.pu) := fun n os => cell_grown hb (by assumption) n os
          have hi0 : (0 : Int) ≤ (i : Int) := Int.natCast_nonneg _
          have hi1 : (i : Int) < (l.length : Int) := by omega
          clear q0 q1 q2 q3 q4 q5 p0 p1 p2 p3 p4 p5
          go_wp2_with fail
          refine wp_region_quiet_grown (by assumption) (by kernel_rfl) ?_
          repeat (first | go_big_quiet_skip | quiet_step ((first | (go_at_call 23; exact Calls.grown_of (rnewer_at hnw _)))))
          refine wpQuiet_nil ?_
          intro _ hw'
          obtain ⟨⟨nq, osq⟩, hw''⟩ := hw'
          subst hw''
          dsimp only
          have N5 := Lib.hid (N4.out.gr ⟨nq, osq, rfl⟩)
          clear N4 gr0 gr1 gr2 gr3 gr4 gr5 gr6 gr7 gr8 gr9 gr10 gr11
          go_wp2_with fail
          go_ret
          exact ⟨rfl, N5.out.2.2.2⟩
        · have HW2 : Hid (∀ j (h : j < l.length), j < i + 1 → nwB o l[j] = true) := Lib.hid (fun j h hj => by by_cases e : j = i; (subst e; rw [HQ.out]; exact hnw); exact HW.out j h (by omega))
          clear HW HQ
          have gr0 : ∀ n os, (Sort.grow (wr.drewN n) os).cell? ⟨w.heap.size, 0, none⟩ = some (.string o.id) := fun n os => cell_grown hbo (by assumption) n os
          have gr1 : ∀ n os, (Sort.grow (wr.drewN n) os).cell? ⟨w.heap.size, 1, none⟩ = some (.string o.pn) := fun n os => cell_grown hbo (by assumption) n os
          have gr2 : ∀ n os, (Sort.grow (wr.drewN n) os).cell? ⟨w.heap.size, 2, none⟩ = some (.string o.fr) := fun n os => cell_grown hbo (by assumption) n os
          have gr3 : ∀ n os, (Sort.grow (wr.drewN n) os).cell? ⟨w.heap.size, 3, none⟩ = some (.string o.to) := fun n os => cell_grown hbo (by assumption) n os
          have gr4 : ∀ n os, (Sort.grow (wr.drewN n) os).cell? ⟨w.heap.size, 4, none⟩ = some (.int .i64 o.pf) := fun n os => cell_grown hbo (by assumption) n os
          have gr5 : ∀ n os, (Sort.grow (wr.drewN n) os).cell? ⟨w.heap.size, 5, none⟩ = some (.int .i64 o.pu) := fun n os => cell_grown hbo (by assumption) n os
          have gr6 : ∀ n os, (Sort.grow (wr.drewN n) os).cell? ⟨b, off + i * 6, none⟩ = some (.string q.id) := fun n os => cell_grown hb (by assumption) n os
          have gr7 : ∀ n os, (Sort.grow (wr.drewN n) os).cell? ⟨b, off + i * 6 + 1, none⟩ = some (.string q.pn) := fun n os => cell_grown hb (by assumption) n os
          have gr8 : ∀ n os, (Sort.grow (wr.drewN n) os).cell? ⟨b, off + i * 6 + 2, none⟩ = some (.string q.fr) := fun n os => cell_grown hb (by assumption) n os
          have gr9 : ∀ n os, (Sort.grow (wr.drewN n) os).cell? ⟨b, off + i * 6 + 3, none⟩ = some (.string q.to) := fun n os => cell_grown hb (by assumption) n os
          have gr10 : ∀ n os, (Sort.grow (wr.drewN n) os).cell? ⟨b, off + i * 6 + 4, none⟩ = some (.int .i64 q.pf) := fun n os => cell_grown hb (by assumption) n os
          have gr11 : ∀ n os, (Sort.grow (wr.drewN n) os).cell? ⟨b, off + i * 6 + 5, none⟩ = some (.int .i64 q.pu) := fun n os => cell_grown hb (by assumption) n os
          have hi0 : (0 : Int) ≤ (i : Int) := Int.natCast_nonneg _
          have hi1 : (i : Int) < (l.length : Int) := by omega
          clear q0 q1 q2 q3 q4 q5 p0 p1 p2 p3 p4 p5
          go_wp2_with fail
          refine wp_region_quiet_grown (by assumption) (by kernel_rfl) ?_
          repeat (first | go_big_quiet_skip | quiet_step ((first | (go_at_call 23; exact Calls.grown_of (rnewer_at hnw _)))))
          refine wpQuiet_nil ?_
          intro _ hw'
          obtain ⟨⟨nq, osq⟩, hw''⟩ := hw'
          subst hw''
          dsimp only
          have N5 := Lib.hid (N4.out.gr ⟨nq, osq, rfl⟩)
          clear N4 gr0 gr1 gr2 gr3 gr4 gr5 gr6 gr7 gr8 gr9 gr10 gr11
          go_wp2_with fail
          go_roundw
          case rel => exact ⟨i + 1, by omega, by go_num, HW2, N5⟩
          case measure => simp [intOf]; omega
      · obtain rfl : i = l.length := by omega
        have HNW := Lib.hid (fun j (h : j < l.length) => HW.out j h h)
        clear HW
        have HK := Lib.hid (new_counts HPP.out HNW.out HCV.out)
        obtain ⟨C, hC⟩ : ∃ C, cntO o.pn day (l ++ [o]) = C := ⟨_, rfl⟩
        have HC := Lib.hid hC
        clear hC
        obtain ⟨_, ⟨q0, q1, q2, q3, q4, q5⟩, _⟩ := N4.out.2.1
        simp only [Nat.zero_add] at q1 q2 q3 q4 q5
        go_wp2_with fail
        refine (settle_n _ _ _ _ o.pn o.fr day _ (HL.out.keep N4.out.2.2.2).1 N4.out.2.2.1.rd HF.out (new_arg HPP.out HCV.out).1 (by simp)).mono ?_
        rintro e w10 ⟨way, t, B, cc, rfl, hE, hcc, hR, hb⟩
        have N6 := Lib.hid (N4.out.keep hb)
        have X6 := Lib.hid hR
        have HE := Lib.hid hE
        clear hb hR hE N4
        clear q0 q1 q2 q3 q4 q5
        obtain ⟨rest, rfl⟩ := new_first HK.out HE.out
        rw [List.length_cons] at hcc
        rw [List.length_cons]
        have hwl : rest.length + 1 ≤ 31 := by have k := way_len HE.out; have k2 := few_len HF.out; rw [List.length_cons] at k; omega
        obtain ⟨_, ⟨q0, q1, q2, q3, q4, q5⟩, _⟩ := N6.out.2.1
        simp only [Nat.zero_add] at q1 q2 q3 q4 q5
        go_wp2_with fail
        refine (settle_n _ _ _ _ o.pn o.to day _ (HL.out.keep N6.out.2.2.2).1 N6.out.2.2.1.rd HF.out (new_arg HPP.out HCV.out).2 (by simp)).mono ?_
        rintro e w11 ⟨way2, t2, B2, cc2, rfl, hE2, hcc2, hR2, hb⟩
        have N7 := Lib.hid (N6.out.keep hb)
        have X7 := Lib.hid (X6.out.keep hb)
        have Y7 := Lib.hid hR2
        obtain ⟨way3, hE3⟩ := new_next HPP.out HK.out HE.out
        obtain ⟨_, rfl⟩ := ends_uniq Ord.fr Ord.to nwB (own_cnt o.pn day (l ++ [o])) hE3 hE2
        have HE2 := Lib.hid hE2
        clear hb hE2 hE3 hR2 N6 X6
        clear q0 q1 q2 q3 q4 q5
        have hw2 : way2.length ≤ 31 := by have k := way_len HE2.out; have k2 := few_len HF.out; omega
        obtain ⟨b', off', rfl, hb', r0⟩ := X7.out.at (k := 0) (by simp [ids])
        rw [show (ids (o :: rest))[0]'(by simp [ids]) = o.id from rfl, Nat.add_zero] at r0
        obtain ⟨_, ⟨q0, q1, q2, q3, q4, q5⟩, _⟩ := N7.out.2.1
        simp only [Nat.zero_add] at q1 q2 q3 q4 q5
        have hbo := N7.out.2.1.1
        have hr0 : (0 : Int) < (rest.length : Int) + 1 := by omega
        have hr1 : ((rest.length : Int) + 1 == 0) = false := by rw [beq_eq_false_iff_ne]; omega
        go_wp2_with fail
        go_quiet (fail)
        have N8 := Lib.hid (N7.out.gr (Gr.drewN w11 nq))
        have Y8 := Lib.hid (Y7.out.keep (Gr.drewN w11 nq).below)
        clear N7 X7 Y7 hb' hbo r0
        clear q0 q1 q2 q3 q4 q5
        generalize w11.drewN nq = w12 at *
        go_wp2_with fail
        go_loopw [16, 17] (fun bv iv wj => ∃ i : Nat, i ≤ way2.length ∧ iv = .int .i64 i ∧ ∃ bb, bv = .bool bb ∧ Hid (bb = anyI (way2.take i) o.id) ∧ Hid (NI w A l o w2.heap.size g2 cap2 wj) ∧ Hid (RdS wj B2 (ids way2))) (fun _ i _ => way2.length - (intOf i).toNat)
        case atStart => exact ⟨0, by omega, rfl, false, rfl, Lib.hid rfl, N8, Y8⟩
        case round =>
          clear N8 Y8
          obtain ⟨i, hi, rfl, bb, rfl, HB, N8, Y8⟩ := hrel
          by_cases hlt : i < way2.length
          · have hsi : i < (ids way2).length := by simp [ids]; omega
            obtain ⟨b', off', rfl, hb', r0⟩ := Y8.out.at hsi
            rw [show (ids way2)[i] = way2[i].id by simp [ids]] at r0
            have HT := Lib.hid (anyI_take (x := o.id) hlt)
            obtain ⟨y, hy⟩ : ∃ y, way2[i] = y := ⟨_, rfl⟩
            rw [hy] at r0 HT
            clear hy
            obtain ⟨_, ⟨q0, q1, q2, q3, q4, q5⟩, _⟩ := N8.out.2.1
            simp only [Nat.zero_add] at q1 q2 q3 q4 q5
            have hi0 : (0 : Int) ≤ (i : Int) := Int.natCast_nonneg _
            have hi1 : (i : Int) < (way2.length : Int) := by omega
            cases bb
            · rw [← HB.out, Bool.false_or] at HT
              by_cases e : y.id = o.id
              · have d1 := bytes_eq e
                have HB2 : Hid (true = anyI (way2.take (i + 1)) o.id) := Lib.hid (by rw [HT.out, decide_eq_true e])
                clear e HT HB
                go_wp2_with fail
                go_quiet (fail)
                have N9 := Lib.hid (N8.out.gr (Gr.drewN wr nq))
                have Y9 := Lib.hid (Y8.out.keep (Gr.drewN wr nq).below)
                clear N8 Y8
                go_wp2_with fail
                go_roundw
                case rel => exact ⟨i + 1, by omega, by go_num, _, rfl, HB2, N9, Y9⟩
                case measure => simp [intOf]; omega
              · have d1 := bytes_ne e
                have HB2 : Hid (false = anyI (way2.take (i + 1)) o.id) := Lib.hid (by rw [HT.out, decide_eq_false e])
                clear e HT HB
                go_wp2_with fail
                go_quiet (fail)
                have N9 := Lib.hid (N8.out.gr (Gr.drewN wr nq))
                have Y9 := Lib.hid (Y8.out.keep (Gr.drewN wr nq).below)
                clear N8 Y8
                go_wp2_with fail
                go_roundw
                case rel => exact ⟨i + 1, by omega, by go_num, _, rfl, HB2, N9, Y9⟩
                case measure => simp [intOf]; omega
            · have HB2 : Hid (true = anyI (way2.take (i + 1)) o.id) := Lib.hid (by rw [HT.out, ← HB.out, Bool.true_or])
              clear HB HT
              go_wp2_with fail
              go_quiet (fail)
              have N9 := Lib.hid (N8.out.gr (Gr.drewN wr nq))
              have Y9 := Lib.hid (Y8.out.keep (Gr.drewN wr nq).below)
              clear N8 Y8
              go_wp2_with fail
              go_roundw
              case rel => exact ⟨i + 1, by omega, by go_num, _, rfl, HB2, N9, Y9⟩
              case measure => simp [intOf]; omega
          · obtain rfl : i = way2.length := by omega
            rw [List.take_length] at HB
            obtain ⟨_, ⟨q0, q1, q2, q3, q4, q5⟩, _⟩ := N8.out.2.1
            simp only [Nat.zero_add] at q1 q2 q3 q4 q5
            cases bb
            · go_wp2_with fail
              go_ret
              exact ⟨rfl, N8.out.2.2.2⟩
            · obtain rfl := new_any HPP.out HNW.out HE2.out HB.out.symm
              go_wp2_with fail
              go_ret
              exact ⟨rfl, N8.out.2.2.2⟩
theorem new_walk (A : Option Addr) (l : List Ord) (c : Nat) (o : Ord) (day : Int) (w : World) (hL : LaidT w) (hR : RdO w A l) (hc : l.length ≤ c) (hA : A = Option.none → c = 0) (hl : l.length * 80 ≤ 140737488351232) : Calls Tryd.prog 7 #[.slice A l.length c, .agg (encO o), .int .i64 day] w (Yes w) := by
  cases hf : fewB (l ++ [o])
  · exact new_few A c l o day w (Lib.hid hL) (Lib.hid hR) hc (Lib.hid hA) hl (Lib.hid hf)
  cases hp : prpL (l ++ [o])
  · exact new_prp A c l o day w (Lib.hid hL) (Lib.hid hR) hc (Lib.hid hA) hl (Lib.hid hf) (Lib.hid hp)
  cases hcv : cov (o.pf, o.pu) day
  · exact new_cov A c l o day w (Lib.hid hL) (Lib.hid hR) hc (Lib.hid hA) hl (Lib.hid hf) (Lib.hid hp) (Lib.hid hcv)
  · exact new_yes A c l o day w (Lib.hid hL) (Lib.hid hR) hc (Lib.hid hA) hl (Lib.hid hf) (Lib.hid hp) (Lib.hid hcv)
end Go.Proofs.YtngbkdnkpolbfaaDoor
