/- Plain facts for the law on other orders. Under no condition. -/
import Derived.Test.YtngbkdnkpolbfaaDoorGQ
namespace Go.Proofs.YtngbkdnkpolbfaaDoor
open Go.RowKit Go.Maps

theorem drop_rev (l : List Ord) (k : Nat) (h : k < l.length) : (l.drop k).reverse = (l.drop (k + 1)).reverse ++ [l[k]] := by
  rw [← List.getElem_cons_drop h, List.reverse_cons]
/-- orders that were taken over -/
def Less (C : ByteArray → Option Ord) (l : List Ord) (i : Nat) (r : List Ord) : Prop :=
  (∀ o ∈ r, o ∈ l.drop i) ∧ (ids r).Nodup ∧ (∀ o ∈ l.drop i, C o.fr = some o → o ∈ r) ∧ r.length ≤ l.length - i
theorem Less.start (C : ByteArray → Option Ord) (l : List Ord) : Less C l l.length [] := by
  refine ⟨(fun o h => by cases h), List.nodup_nil, (fun o h => ?_), by simp⟩
  rw [List.drop_length] at h; cases h
theorem Less.skip {C : ByteArray → Option Ord} {l r : List Ord} {k : Nat} (h : Less C l (k + 1) r) (hk : k < l.length) (hc : C l[k].fr ≠ some l[k]) : Less C l k r := by
  obtain ⟨h1, h2, h3, h4⟩ := h
  rw [Less, ← List.getElem_cons_drop hk]
  refine ⟨fun o ho => List.mem_cons_of_mem _ (h1 o ho), h2, fun o ho hco => ?_, by omega⟩
  rcases List.mem_cons.1 ho with rfl | ho
  · exact absurd hco hc
  · exact h3 o ho hco
theorem ids_drop {l : List Ord} (h : (ids l).Nodup) {k : Nat} (hk : k < l.length) : l[k].id ∉ ids (l.drop (k + 1)) := by
  have e : ids l = ids (l.take k) ++ (l[k].id :: ids (l.drop (k + 1))) := by
    unfold ids
    rw [← List.map_cons (f := Ord.id), ← List.map_append, List.getElem_cons_drop, List.take_append_drop]
  rw [e, List.nodup_append] at h
  exact (List.nodup_cons.1 h.2.1).1
theorem Less.add {C : ByteArray → Option Ord} {l r : List Ord} {k : Nat} (h : Less C l (k + 1) r) (hn : (ids l).Nodup) (hk : k < l.length) : Less C l k (r ++ [l[k]]) := by
  obtain ⟨h1, h2, h3, h4⟩ := h
  rw [Less, ← List.getElem_cons_drop hk]
  refine ⟨fun o ho => ?_, ?_, fun o ho hco => ?_, by rw [List.length_append, List.length_singleton]; omega⟩
  · rcases List.mem_append.1 ho with ho | ho
    · exact List.mem_cons_of_mem _ (h1 o ho)
    · rw [List.mem_singleton.1 ho]; exact List.mem_cons_self ..
  · rw [ids_app, List.nodup_append]
    refine ⟨h2, by simp [ids], fun a ha b hb e => ?_⟩
    have hb' : b = l[k].id := by simpa [ids] using hb
    apply ids_drop hn hk
    rw [← hb', ← e]
    unfold ids at ha ⊢
    obtain ⟨o, ho, rfl⟩ := List.mem_map.1 ha
    exact List.mem_map_of_mem (h1 o ho)
  · rcases List.mem_cons.1 ho with rfl | ho
    · simp
    · exact List.mem_append_left _ (h3 o ho hco)
theorem prpL_of {l : List Ord} (h1 : ∀ o ∈ l, oneB o = true) (h2 : (ids l).Nodup) : prpL l = true := by
  unfold prpL; rw [Bool.and_eq_true, decide_eq_true_iff]; exact ⟨List.all_eq_true.2 h1, h2⟩
theorem fewB_of {l r : List Ord} (h : fewB l = true) (h1 : ∀ o ∈ r, o ∈ l) (h2 : r.length ≤ l.length) : fewB r = true := by
  have hl := few_len h
  unfold fewB at *
  rw [Bool.and_eq_true, decide_eq_true_iff] at *
  exact ⟨by omega, List.all_eq_true.2 fun o ho => List.all_eq_true.1 h.2 o (h1 o ho)⟩
theorem argB_of {l r : List Ord} {pn door : ByteArray} {day : Int} (h : argB l pn door day = true) (hr : prpL r = true) : argB r pn door day = true := by
  unfold argB at *
  simp only [Bool.and_eq_true, decide_eq_true_iff] at *
  exact ⟨h.1, hr, h.2.2⟩
theorem prp_rev {l : List Ord} (h : prpL l = true) : prpL l.reverse = true := by
  refine prpL_of (fun o ho => prp_all h o (List.mem_reverse.1 ho)) ?_
  have := prp_nodup h
  unfold ids at *
  rw [List.map_reverse]
  exact List.pairwise_reverse.2 (this.imp fun h => Ne.symm h)
theorem cnt_rev {pn : ByteArray} {day : Int} {l : List Ord} (h : prpL l = true) : cntO pn day l.reverse = cntO pn day l :=
  cnt_same Ord.fr nwB (actB pn day) so_nw (tot_of l h) (fun _ ho => List.mem_reverse.1 ho) (fun _ _ hn => List.mem_reverse.2 hn.1)
theorem less_prp {pn : ByteArray} {day : Int} {l r : List Ord} (h : prpL l = true) (hr : Less (cntO pn day l) l 0 r) : prpL r = true :=
  prpL_of (fun o ho => prp_all h o (by have := hr.1 o ho; rwa [List.drop_zero] at this)) hr.2.1
theorem cnt_less {pn : ByteArray} {day : Int} {l r : List Ord} (h : prpL l = true) (hr : Less (cntO pn day l) l 0 r) : cntO pn day r = cntO pn day l :=
  cnt_same Ord.fr nwB (actB pn day) so_nw (tot_of l h) (fun o ho => by have := hr.1 o ho; rwa [List.drop_zero] at this) (fun x o hn => by
    refine hr.2.2.1 o (by rw [List.drop_zero]; exact hn.1) ?_
    rw [hn.2.2.1]
    exact cnt_some Ord.fr nwB (actB pn day) so_nw (tot_of l h) hn)
/-- Settle with orders of which the same ones count -/
theorem settle_same (A : Option Addr) (c : Nat) (l r way : List Ord) (pn door t : ByteArray) (day : Int) (w : World) (hL : Laid w) (hr : RdO w A r) (hf : fewB r = true) (ha : argB r pn door day = true) (he : cntO pn day r = cntO pn day l) (h : Ends Ord.fr Ord.to nwB (cntO pn day l) door way t) :
    Calls Tryd.prog 12 #[.slice A r.length c, .string pn, .string door, .int .i64 day] w (SIs way t w) := by
  refine (settle_w A c r pn door day w hL hr hf ha).mono ?_
  rw [he]
  rintro e w' ⟨way', t', B, cc, he, hE, hc, hR, hb⟩
  obtain ⟨rfl, rfl⟩ := ends_uniq Ord.fr Ord.to nwB (own_cnt pn day l) h hE
  exact ⟨B, cc, he, hc, hR, hb⟩
/-- two rows of the call's own -/
def Two (w : World) (base : Nat) (v : Value) (a : List Ord) (v' : Value) (b : List Ord) : Prop :=
  w.ownsRow base 26 6 v a.length (flatO a) ∧ w.ownsRow base 26 6 v' b.length (flatO b) ∧ (∀ g, v.ownBlock = some g → v'.ownBlock ≠ some g)
theorem Two.keep {w w' : World} {base : Nat} {v v' : Value} {a b : List Ord} (h : Two w base v a v' b) (hb : Below w.heap.size w w') : Two w' base v a v' b :=
  ⟨own_below h.1 hb, own_below h.2.1 hb, h.2.2⟩
theorem own_far {w w' : World} {base n : Nat} {v : Value} {xs : List Value} {row : Option Nat} (h : w.ownsRow base 26 6 v n xs) (hg : w.grownBy w' row) (hne : ∀ g, v.ownBlock = some g → row ≠ some g) : w'.ownsRow base 26 6 v n xs := by
  refine ⟨h.1, ?_⟩
  rcases h.2 with h2 | ⟨g, cap, cur, hv, h1, hgh, h3⟩
  · exact Or.inl h2
  · exact Or.inr ⟨g, cap, cur, hv, h1, (hg.block g (heap_lt hgh) (fun e => hne g (by rw [hv]; rfl) e.symm)).trans hgh, h3⟩
theorem own_lt {w : World} {base n : Nat} {v : Value} {xs : List Value} (h : w.ownsRow base 26 6 v n xs) {g : Nat} (hg : v.ownBlock = some g) : base ≤ g ∧ g < w.heap.size := h.lt g hg
/-- append to the first row -/
theorem Two.app {w wx wy : World} {base g cap : Nat} {v v' : Value} {a b : List Ord} {o : Ord} (h : Two w base v a v' b) (g0 : Gr w wx) (ho : wy.ownsRow base 26 6 (.slice (some ⟨g, 0, none⟩) (a.length + 1) cap) (a.length + 1) (flatO a ++ flatO [o])) (hg : wx.grownBy wy v.ownBlock) (hl : v.ownBlock = some g ∨ g = wx.heap.size) :
    Two wy base (.slice (some ⟨g, 0, none⟩) (a.length + 1) cap) (a ++ [o]) v' b := by
  have h' := h.keep g0.below
  refine ⟨by rw [flatO_app, List.length_append]; exact ho, own_far h'.2.1 hg (fun g' hg' e => h'.2.2 g' e hg'), fun g' hg' e => ?_⟩
  have e1 : g = g' := by simpa [Value.ownBlock] using hg'
  subst e1
  rcases hl with hl | hl
  · exact h'.2.2 g hl e
  · have := (own_lt h'.2.1 e).2; omega
/-- append to the second row -/
theorem Two.app' {w wx wy : World} {base g cap : Nat} {v v' : Value} {a b : List Ord} {o : Ord} (h : Two w base v a v' b) (g0 : Gr w wx) (ho : wy.ownsRow base 26 6 (.slice (some ⟨g, 0, none⟩) (b.length + 1) cap) (b.length + 1) (flatO b ++ flatO [o])) (hg : wx.grownBy wy v'.ownBlock) (hl : v'.ownBlock = some g ∨ g = wx.heap.size) :
    Two wy base v a (.slice (some ⟨g, 0, none⟩) (b.length + 1) cap) (b ++ [o]) := by
  have h' := h.keep g0.below
  refine ⟨own_far h'.1 hg (fun g' hg' => h'.2.2 g' hg'), by rw [flatO_app, List.length_append]; exact ho, fun g' hg' e => ?_⟩
  have e1 : g = g' := by simpa [Value.ownBlock] using e
  subst e1
  rcases hl with hl | hl
  · exact h'.2.2 g hg' hl
  · have := (own_lt h'.1 hg').2; omega
theorem own_sl {w : World} {base : Nat} {v : Value} {a : List Ord} (h : w.ownsRow base 26 6 v a.length (flatO a)) : ∃ A c, v = .slice A a.length c := own_len h
theorem own_rd2 {w : World} {base : Nat} {v : Value} {a : List Ord} (h : w.ownsRow base 26 6 v a.length (flatO a)) : ∃ A c n, v = .slice A n c ∧ a.length = n ∧ RdO w A a := by
  obtain ⟨A, c, hv, _, hr⟩ := own_rd h
  exact ⟨A, c, _, hv, rfl, hr⟩
theorem idx_inj {l : List Ord} (hn : (ids l).Nodup) {j k : Nat} (hj : j < l.length) (hk : k < l.length) (e : l[j] = l[k]) : j = k := by
  have h : ∀ {a b : Nat} (ha : a < l.length) (hb : b < l.length), a < b → l[a] ≠ l[b] := fun {a b} ha hb hab e => by
    have := (List.pairwise_iff_getElem.1 hn) a b (by simp [ids]; omega) (by simp [ids]; omega) hab
    apply this
    simp [ids, e]
  rcases Nat.lt_trichotomy j k with h1 | h1 | h1
  · exact absurd e (h hj hk h1)
  · exact h1
  · exact absurd e.symm (h hk hj h1)
end Go.Proofs.YtngbkdnkpolbfaaDoor
