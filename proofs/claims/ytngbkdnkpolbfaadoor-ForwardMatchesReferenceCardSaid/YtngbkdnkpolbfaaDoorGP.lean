/- Plain facts for the laws on ways. Under no condition. -/
import Derived.Test.YtngbkdnkpolbfaaDoorFWB
namespace Go.Proofs.YtngbkdnkpolbfaaDoor
open Go.RowKit Go.Maps

theorem chain_at {c : ByteArray → Option Ord} : ∀ {way : List Ord} {x : ByteArray}, Chain Ord.to c x way → ∀ i (hi : i < way.length), c (endAt Ord.to x (way.take i)) = some way[i]
  | [], _, _, i, hi => by cases hi
  | o :: way, x, h, 0, _ => h.1
  | o :: way, x, h, i + 1, hi => chain_at h.2 i (by simpa using hi)
theorem endAt_take {way : List Ord} {x : ByteArray} {i : Nat} (hi : i < way.length) : endAt Ord.to x (way.take (i + 1)) = way[i].to := by
  rw [List.take_succ_eq_append_getElem hi, endAt_snoc]
/-- what a step of a way is -/
theorem way_step {pn : ByteArray} {day : Int} {l way : List Ord} {door : ByteArray} (h : Chain Ord.to (cntO pn day l) door way) (i : Nat) (hi : i < way.length) :
    way[i] ∈ l ∧ way[i].pn = pn ∧ cov (way[i].pf, way[i].pu) day = true ∧ way[i].fr = endAt Ord.to door (way.take i) ∧ ∀ q ∈ l, q.pn = pn → cov (q.pf, q.pu) day = true → q.fr = endAt Ord.to door (way.take i) → nwB q way[i] = false := by
  obtain ⟨h1, h2, h3, h4⟩ := (cnt_spec Ord.fr nwB (actB pn day) so_nw l).2 _ _ (chain_at h i hi)
  unfold actB at h2
  rw [Bool.and_eq_true, decide_eq_true_iff] at h2
  exact ⟨h1, h2.1, h2.2, h3, fun q hq e c f => h4 q hq (act_yes c e) f⟩
theorem way_none {pn : ByteArray} {day : Int} {l : List Ord} {x : ByteArray} (h : cntO pn day l x = none) : ∀ q ∈ l, q.pn = pn → cov (q.pf, q.pu) day = true → q.fr ≠ x :=
  fun q hq e c => (cnt_spec Ord.fr nwB (actB pn day) so_nw l).1 x h q hq (act_yes c e)
theorem mem_at {l : List Ord} {o : Ord} (h : o ∈ l) : ∃ k, ∃ hk : k < l.length, l[k] = o := by
  obtain ⟨k, hk, e⟩ := List.getElem_of_mem h
  exact ⟨k, hk, e⟩
theorem ids_at (way : List Ord) (i : Nat) (hi : i < way.length) : (ids way)[i]? = some way[i].id := by
  unfold ids; rw [List.getElem?_map, List.getElem?_eq_getElem hi]; rfl
/-- a way has no identifier twice -/
theorem way_ids {l way : List Ord} (hn : (ids l).Nodup) (hm : ∀ o ∈ way, o ∈ l) (hf : (way.map Ord.fr).Nodup) {i j : Nat} (hj : j < i) (hi : i < way.length) : way[j].id ≠ way[i].id := by
  intro e
  have h1 := id_inj hn _ (hm _ (List.getElem_mem (show j < way.length by omega))) _ (hm _ (List.getElem_mem hi)) e
  have := (List.pairwise_iff_getElem.1 hf) j i (by simp; omega) (by simpa using hi) hj
  rw [List.getElem_map, List.getElem_map, h1] at this
  exact this rfl
theorem prp_nodup {l : List Ord} (h : prpL l = true) : (ids l).Nodup := by
  unfold prpL at h
  rw [Bool.and_eq_true, decide_eq_true_iff] at h
  exact h.2
theorem prp_all {l : List Ord} (h : prpL l = true) : ∀ o ∈ l, oneB o = true := by
  unfold prpL at h
  rw [Bool.and_eq_true] at h
  exact List.all_eq_true.1 h.1
/-- memory as it stands in the walk of a law: orders, names, and what lay there -/
def LI (w : World) (A : Option Addr) (l : List Ord) (B : Option Addr) (x : List ByteArray) (W : World) : Prop := RdO W A l ∧ RdS W B x ∧ Below w.heap.size w W
theorem LI.keep {w : World} {A B : Option Addr} {l : List Ord} {x : List ByteArray} {W W' : World} (h : LI w A l B x W) (hb : Below W.heap.size W W') : LI w A l B x W' :=
  ⟨h.1.keep hb, h.2.1.keep hb, h.2.2.trans (hb.mono h.2.2.size)⟩
theorem LI.gr {w : World} {A B : Option Addr} {l : List Ord} {x : List ByteArray} {W W' : World} (h : LI w A l B x W) (g : Gr W W') : LI w A l B x W' := h.keep g.below
theorem RdO.at {w : World} {A : Option Addr} {l : List Ord} (h : RdO w A l) {k : Nat} (hk : k < l.length) : ∃ b off, A = some ⟨b, off, none⟩ ∧ b < w.heap.size ∧ At6 w b (off + k * 6) l[k] := by
  rcases h with h | ⟨b, off, e, hb, hc⟩
  · rw [h] at hk; cases hk
  · exact ⟨b, off, e, hb, hc k hk⟩
theorem RdS.at {w : World} {A : Option Addr} {l : List ByteArray} (h : RdS w A l) {k : Nat} (hk : k < l.length) : ∃ b off, A = some ⟨b, off, none⟩ ∧ b < w.heap.size ∧ w.cell? ⟨b, off + k, none⟩ = some (.string l[k]) := by
  rcases h with h | ⟨b, off, e, hb, hc⟩
  · rw [h] at hk; cases hk
  · exact ⟨b, off, e, hb, hc k hk⟩
theorem cov_day {f u d : Int} (h : cov (f, u) d = true) : 0 ≤ d ∧ d ≤ 100000 := by
  by_cases hd : d < 0 ∨ 100000 < d
  · rw [cov_out f u d hd] at h; cases h
  · omega
theorem way_mem {pn : ByteArray} {day : Int} {l way : List Ord} {door t : ByteArray} (h : Ends Ord.fr Ord.to nwB (cntO pn day l) door way t) {o : Ord} (ho : o ∈ way) : o ∈ l :=
  ((cnt_spec Ord.fr nwB (actB pn day) so_nw l).2 _ _ (chain_mem Ord.fr Ord.to (own_cnt pn day l) h.1 o ho)).1
theorem way_len {pn : ByteArray} {day : Int} {l way : List Ord} {door t : ByteArray} (h : Ends Ord.fr Ord.to nwB (cntO pn day l) door way t) : way.length ≤ l.length :=
  nodup_le (nodup_of_map h.2.1) (fun _ ho => way_mem h ho)
/-- what Settle leaves, in the way's own length -/
def SPw (C : ByteArray → Option Ord) (door : ByteArray) (w : World) (e : Ending) (w' : World) : Prop :=
  ∃ (way : List Ord) (t : ByteArray) (A : Option Addr) (c : Nat), e = .returned (.tuple #[.string t, .slice A way.length c, .int .i64 0]) ∧ Ends Ord.fr Ord.to nwB C door way t ∧ way.length ≤ c ∧ RdS w' A (ids way) ∧ Below w.heap.size w w'
theorem SPost.w {C : ByteArray → Option Ord} {door : ByteArray} {w : World} {e : Ending} {w' : World} (h : SPost C door w e w') : SPw C door w e w' := by
  obtain ⟨way, t, A, c, he, hE, hc, hR, hB⟩ := h
  have hl : (ids way).length = way.length := by simp [ids]
  rw [hl] at he hc
  exact ⟨way, t, A, c, he, hE, hc, hR, hB⟩
theorem settle_w (A : Option Addr) (c : Nat) (l : List Ord) (pn door : ByteArray) (day : Int) (w : World) (hL : Laid w) (hr : RdO w A l) (hf : fewB l = true) (ha : argB l pn door day = true) :
    Calls Tryd.prog 12 #[.slice A l.length c, .string pn, .string door, .int .i64 day] w (SPw (cntO pn day l) door w) := by
  unfold argB at ha
  simp only [Bool.and_eq_true, decide_eq_true_iff] at ha
  obtain ⟨⟨d0, d1⟩, hp, h1, h2⟩ := ha
  have z1 := (nm_size h1).2
  have z2 := (nm_size h2).2
  exact (settle_yes A c l pn door day w hL hr (by have := few_len hf; omega) (fun o ho => by have k := few_mem hf ho; exact ⟨by omega, by omega, by omega, by omega⟩) hp h1 h2 (by omega) (by omega) d0 d1).mono fun e w' h => h.w
theorem arg_prp {l : List Ord} {pn door : ByteArray} {day : Int} (ha : argB l pn door day = true) : prpL l = true := by
  unfold argB at ha
  simp only [Bool.and_eq_true, decide_eq_true_iff] at ha
  exact ha.2.1
/-- whether a way has left an entrance -/
def anyF (way : List Ord) (x : ByteArray) : Bool := way.any fun o => decide (o.fr = x)
theorem anyF_take {way : List Ord} {x : ByteArray} {i : Nat} (hi : i < way.length) : anyF (way.take (i + 1)) x = (anyF (way.take i) x || decide (way[i].fr = x)) := by
  unfold anyF; rw [List.take_succ_eq_append_getElem hi, List.any_append]; simp
theorem ends_out {C : ByteArray → Option Ord} {door t : ByteArray} {way : List Ord} (h : Ends Ord.fr Ord.to nwB C door way t) (ha : anyF way (endAt Ord.to door way) = false) : C (endAt Ord.to door way) = none ∧ t = endAt Ord.to door way := by
  rcases h.2.2 with h | ⟨pre, o, post, e, h1, _⟩
  · exact h
  · exfalso
    unfold anyF at ha
    rw [List.any_eq_false] at ha
    have := ha o (by rw [e]; simp)
    simp at this
    exact this h1.symm
end Go.Proofs.YtngbkdnkpolbfaaDoor
