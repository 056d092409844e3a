/- Plain facts for the law on circles. Under no condition. -/
import Derived.Test.YtngbkdnkpolbfaaDoorGP
namespace Go.Proofs.YtngbkdnkpolbfaaDoor
open Go.RowKit Go.Maps

theorem cnt_in {pn : ByteArray} {day : Int} {l : List Ord} (x : ByteArray) (o : Ord) (h : cntO pn day l x = some o) : o ∈ l :=
  ((cnt_spec Ord.fr nwB (actB pn day) so_nw l).2 x o h).1
/-- from each entrance of a way the mail goes to one place -/
theorem ends_go {pn : ByteArray} {day : Int} {l way : List Ord} {door t : ByteArray} (hp : prpL l = true) (h : Ends Ord.fr Ord.to nwB (cntO pn day l) door way t) {i : Nat} (hi : i < way.length) : ∃ way', Ends Ord.fr Ord.to nwB (cntO pn day l) way[i].fr way' t := by
  have hc : Chain Ord.to (cntO pn day l) door (way.take i) := ((chain_app Ord.to _ _ (way.take i) (way.drop i)).1 (by rw [List.take_append_drop]; exact h.1)).1
  obtain ⟨way', k⟩ := ends_along Ord.fr Ord.to nwB so_nw (tot_of l hp) (own_cnt pn day l) cnt_in _ h hc
  rw [← (way_step h.1 i hi).2.2.2.1] at k
  exact ⟨way', k⟩
theorem ends_stay {pn : ByteArray} {day : Int} {l way : List Ord} {door t : ByteArray} (hp : prpL l = true) (h : Ends Ord.fr Ord.to nwB (cntO pn day l) door way t) : ∃ way', Ends Ord.fr Ord.to nwB (cntO pn day l) t way' t :=
  ends_again Ord.fr Ord.to nwB so_nw (tot_of l hp) (own_cnt pn day l) cnt_in h
theorem endAt_nm {door : ByteArray} (hd : nmB door = true) : ∀ {way : List Ord}, (∀ o ∈ way, nmB o.to = true) → nmB (endAt Ord.to door way) = true := by
  intro way h
  induction way using rev_ind with
  | h0 => exact hd
  | h1 l o _ => rw [endAt_snoc]; exact h o (by simp)
theorem ends_nm {pn : ByteArray} {day : Int} {l way : List Ord} {door t : ByteArray} (hp : prpL l = true) (hd : nmB door = true) (h : Ends Ord.fr Ord.to nwB (cntO pn day l) door way t) : nmB t = true := by
  have hw : ∀ o ∈ way, nmB o.to = true := fun o ho => (one_parts (prp_all hp o (way_mem h ho))).2.2.2.1
  rcases h.2.2 with ⟨_, e⟩ | ⟨pre, o, post, e, _, e2⟩
  · rw [e]; exact endAt_nm hd hw
  · rw [e2]
    apply hw
    rw [e]
    rcases best_mem nwB post o with k | k
    · rw [k]; simp
    · simp [k]
theorem ends_nil {C : ByteArray → Option Ord} {door t : ByteArray} (h : Ends Ord.fr Ord.to nwB C door [] t) : t = door := by
  rcases h.2.2 with ⟨_, e⟩ | ⟨pre, o, post, e, _⟩
  · exact e
  · cases pre <;> cases e
/-- where a way came by an entrance last -/
def Beg (way : List Ord) (x : ByteArray) (i : Nat) (bi : Int) : Prop :=
  (bi = -1 ∧ ∀ j (h : j < way.length), j < i → way[j].fr ≠ x) ∨ (∃ p, ∃ h : p < way.length, p < i ∧ bi = (p : Int) ∧ way[p].fr = x)
theorem Beg.start (way : List Ord) (x : ByteArray) : Beg way x 0 (-1) := Or.inl ⟨rfl, fun j _ h => by omega⟩
theorem Beg.hit {way : List Ord} {x : ByteArray} {i : Nat} (hi : i < way.length) (e : way[i].fr = x) : Beg way x (i + 1) (i : Int) := Or.inr ⟨i, hi, by omega, rfl, e⟩
theorem Beg.miss {way : List Ord} {x : ByteArray} {i : Nat} {bi : Int} (h : Beg way x i bi) (hi : i < way.length) (e : way[i].fr ≠ x) : Beg way x (i + 1) bi := by
  rcases h with ⟨h1, h2⟩ | ⟨p, hp, h1, h2, h3⟩
  · refine Or.inl ⟨h1, fun j hj hji => ?_⟩
    by_cases ej : j = i
    · subst ej; exact e
    · exact h2 j hj (by omega)
  · exact Or.inr ⟨p, hp, by omega, h2, h3⟩
/-- the last order of a way -/
theorem endAt_last {way : List Ord} {door : ByteArray} {m : Nat} (hm : way.length = m + 1) : endAt Ord.to door way = (way[m]'(by omega)).to := by
  have h : m < way.length := by omega
  have e := endAt_take (x := door) h
  rwa [List.take_of_length_le (by omega)] at e
theorem ends_open {C : ByteArray → Option Ord} {door t : ByteArray} {way : List Ord} (h : Ends Ord.fr Ord.to nwB C door way t) {x : ByteArray} (hx : endAt Ord.to door way = x) (hn : ∀ j (h : j < way.length), j < way.length → way[j].fr ≠ x) : t = x := by
  rcases h.2.2 with ⟨_, e⟩ | ⟨pre, o, post, e, h1, _⟩
  · rw [e, hx]
  · exfalso
    refine hn pre.length (by rw [e]; simp) (by rw [e]; simp) ?_
    rw [← hx, h1]
    simp [e]
/-- the newest one of a circle up to a round -/
def bst (way : List Ord) (p : Nat) (h : p < way.length) (i : Nat) : Ord := best nwB way[p] ((way.drop p).take (i - p))
theorem bst_at (way : List Ord) (p : Nat) (h : p < way.length) : bst way p h p = way[p] := by unfold bst; simp [best]
theorem bst_step (way : List Ord) (p : Nat) (h : p < way.length) {i : Nat} (hp : p ≤ i) (hi : i < way.length) : bst way p h (i + 1) = if nwB way[i] (bst way p h i) = true then way[i] else bst way p h i := by
  unfold bst
  have hl : i - p < (way.drop p).length := by rw [List.length_drop]; omega
  have e : (way.drop p)[i - p] = way[i] := by rw [List.getElem_drop]; congr 1; omega
  rw [show i + 1 - p = i - p + 1 by omega, List.take_succ_eq_append_getElem hl, best_snoc, e]
theorem bst_end {pn : ByteArray} {day : Int} {l way : List Ord} {door t : ByteArray} (h : Ends Ord.fr Ord.to nwB (cntO pn day l) door way t) (p : Nat) (hp : p < way.length) (hx : way[p].fr = endAt Ord.to door way) : t = (bst way p hp way.length).to := by
  have hw : way = way.take p ++ way[p] :: way.drop (p + 1) := by rw [List.getElem_cons_drop, List.take_append_drop]
  rcases h.2.2 with ⟨e, _⟩ | ⟨pre, o, post, e, h1, h2⟩
  · exfalso
    have := chain_mem Ord.fr Ord.to (own_cnt pn day l) h.1 way[p] (List.getElem_mem hp)
    rw [hx, e] at this; cases this
  · obtain ⟨_, e1, e2⟩ := nodup_mid Ord.fr (pre := way.take p) (pre' := pre) (post := way.drop (p + 1)) (post' := post) (a := way[p]) (b := o) (by rw [← hw]; exact h.2.1) (hw.symm.trans e) (hx.trans h1)
    rw [h2]
    unfold bst
    rw [List.take_of_length_le (by rw [List.length_drop]; omega), ← List.getElem_cons_drop hp, ← e1, ← e2, best_cons, if_neg (by rw [so_nw.irr]; simp)]
/-- what Settle leaves where it is known where the mail goes, the names left out -/
def SGo (t : ByteArray) (w : World) (e : Ending) (w' : World) : Prop := ∃ (A : Option Addr) (n c : Nat), e = .returned (.tuple #[.string t, .slice A n c, .int .i64 0]) ∧ Below w.heap.size w w'
theorem settle_go (A : Option Addr) (c : Nat) (l : List Ord) (pn x t : ByteArray) (day : Int) (w : World) (hL : Laid w) (hr : RdO w A l) (hf : fewB l = true) (ha : argB l pn x day = true) (h : ∃ way, Ends Ord.fr Ord.to nwB (cntO pn day l) x way t) :
    Calls Tryd.prog 12 #[.slice A l.length c, .string pn, .string x, .int .i64 day] w (SGo t w) := by
  obtain ⟨way, h⟩ := h
  refine (settle_w A c l pn x day w hL hr hf ha).mono ?_
  rintro e w' ⟨way', t', B, cc, he, hE, _, _, hb⟩
  obtain ⟨_, rfl⟩ := ends_uniq Ord.fr Ord.to nwB (own_cnt pn day l) h hE
  exact ⟨B, way'.length, cc, he, hb⟩
theorem arg_of {l : List Ord} {pn door x : ByteArray} {day : Int} (ha : argB l pn door day = true) (hx : nmB x = true) : argB l pn x day = true := by
  unfold argB at *
  simp only [Bool.and_eq_true, decide_eq_true_iff] at *
  exact ⟨ha.1, ha.2.1, ha.2.2.1, hx⟩
theorem arg_door {l : List Ord} {pn door : ByteArray} {day : Int} (ha : argB l pn door day = true) : nmB door = true := by
  unfold argB at ha
  simp only [Bool.and_eq_true, decide_eq_true_iff] at ha
  exact ha.2.2.2
end Go.Proofs.YtngbkdnkpolbfaaDoor
