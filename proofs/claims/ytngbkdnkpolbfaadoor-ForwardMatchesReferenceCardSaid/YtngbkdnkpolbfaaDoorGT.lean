/- Plain facts for the law on a new order. Under no condition. -/
import Derived.Test.YtngbkdnkpolbfaaDoorGS
namespace Go.Proofs.YtngbkdnkpolbfaaDoor
open Go.RowKit Go.Maps

theorem mem_new {l : List Ord} {o q : Ord} (h : q ∈ l ++ [o]) : q ∈ l ∨ q = o := by
  rcases List.mem_append.1 h with h | h
  · exact Or.inl h
  · exact Or.inr (List.mem_singleton.1 h)
theorem new_newer {l : List Ord} {o : Ord} (hn : ∀ j (h : j < l.length), nwB o l[j] = true) {q : Ord} (h : q ∈ l) : nwB o q = true := by
  obtain ⟨j, hj, rfl⟩ := List.getElem_of_mem h
  exact hn j hj
theorem new_counts {l : List Ord} {o : Ord} {day : Int} (hp : prpL (l ++ [o]) = true) (hn : ∀ j (h : j < l.length), nwB o l[j] = true) (hc : cov (o.pf, o.pu) day = true) : cntO o.pn day (l ++ [o]) o.fr = some o := by
  refine cnt_some Ord.fr nwB (actB o.pn day) so_nw (tot_of _ hp) ⟨by simp, act_yes hc rfl, rfl, fun q hq _ _ => ?_⟩
  rcases mem_new hq with hq | rfl
  · exact so_nw.asy (new_newer hn hq)
  · exact so_nw.irr _
theorem new_first {C : ByteArray → Option Ord} {o : Ord} {way : List Ord} {t : ByteArray} (hc : C o.fr = some o) (h : Ends Ord.fr Ord.to nwB C o.fr way t) : ∃ rest, way = o :: rest := by
  cases way with
  | nil =>
    exfalso
    rcases h.2.2 with ⟨e, _⟩ | ⟨pre, q, post, e, _⟩
    · rw [show endAt Ord.to o.fr [] = o.fr from rfl, hc] at e; cases e
    · cases pre <;> cases e
  | cons p rest =>
    have := h.1.1
    rw [hc] at this
    exact ⟨rest, by rw [Option.some.inj this]⟩
theorem new_next {l : List Ord} {o : Ord} {pn : ByteArray} {day : Int} {way : List Ord} {t : ByteArray} (hp : prpL l = true) (hc : cntO pn day l o.fr = some o) (h : Ends Ord.fr Ord.to nwB (cntO pn day l) o.fr way t) : ∃ way', Ends Ord.fr Ord.to nwB (cntO pn day l) o.to way' t :=
  ends_next Ord.fr Ord.to nwB so_nw (tot_of l hp) (own_cnt pn day l) cnt_in h hc
theorem new_back {l : List Ord} {o : Ord} {day : Int} {way : List Ord} {t : ByteArray} (hp : prpL (l ++ [o]) = true) (hn : ∀ j (h : j < l.length), nwB o l[j] = true) (h : Ends Ord.fr Ord.to nwB (cntO o.pn day (l ++ [o])) o.to way t) (hm : o ∈ way) : t = o.to := by
  have hC := own_cnt o.pn day (l ++ [o])
  have hft : o.fr ≠ o.to := (one_parts (prp_all hp o (by simp))).2.2.2.2.1
  have hsub : ∀ q ∈ way, q ∈ l ++ [o] := fun q hq => way_mem h hq
  obtain ⟨pre, post, rfl⟩ := List.append_of_mem hm
  obtain ⟨h1, h2, h3⟩ := h
  obtain ⟨c1, c2, c3⟩ := (chain_app Ord.to _ _ _ _).1 h1
  -- nothing follows the order
  have hpost : post = [] := by
    cases post with
    | nil => rfl
    | cons q r =>
      exfalso
      have hq := c3.1
      cases pre with
      | nil =>
        have e : some o = some q := c2.symm.trans hq
        have := hC _ _ c2
        exact hft this
      | cons p pre' =>
        have e : some p = some q := c1.1.symm.trans hq
        have e := Option.some.inj e
        subst e
        rw [List.map_append, List.nodup_append] at h2
        exact h2.2.2 p.fr (by simp) p.fr (by simp) rfl
  subst hpost
  rw [endAt_snoc] at h3
  -- the first order of the way
  obtain ⟨f0, rest, hw, hf⟩ : ∃ f0 rest, pre ++ [o] = f0 :: rest ∧ cntO o.pn day (l ++ [o]) o.to = some f0 := by
    cases pre with
    | nil => exact ⟨o, [], rfl, c2⟩
    | cons p pre' => exact ⟨p, pre' ++ [o], rfl, c1.1⟩
  rcases h3 with ⟨e, _⟩ | ⟨pre2, o2, post2, e, e1, e2⟩
  · rw [hf] at e; cases e
  · have hf0 := hC _ _ hf
    obtain ⟨e3, e4, e5⟩ := nodup_mid Ord.fr (pre := []) (pre' := pre2) (post := rest) (post' := post2) (a := f0) (b := o2) (by rw [List.nil_append, ← hw]; exact h2) (by rw [List.nil_append, ← hw]; exact e) (hf0.trans e1)
    subst e3 e4 e5
    rw [e2]
    have hb : best nwB f0 rest ∈ pre ++ [o] := by
      rw [hw]
      rcases best_mem nwB rest f0 with k | k
      · rw [k]; exact List.mem_cons_self ..
      · exact List.mem_cons_of_mem _ k
    have hmx := best_max nwB so_nw rest f0
    have ho : nwB o (best nwB f0 rest) = false := by
      have hm2 : o ∈ f0 :: rest := by rw [← hw]; simp
      rcases List.mem_cons.1 hm2 with k | k
      · rw [k]; exact hmx.1
      · exact hmx.2 o k
    rcases mem_new (hsub _ hb) with k | k
    · rw [new_newer hn k] at ho; cases ho
    · rw [k]
/-- whether a way goes by an order's identifier -/
def anyI (way : List Ord) (x : ByteArray) : Bool := way.any fun q => decide (q.id = x)
theorem anyI_take {way : List Ord} {x : ByteArray} {i : Nat} (hi : i < way.length) : anyI (way.take (i + 1)) x = (anyI (way.take i) x || decide (way[i].id = x)) := by
  unfold anyI; rw [List.take_succ_eq_append_getElem hi, List.any_append]; simp
theorem new_any {l : List Ord} {o : Ord} {day : Int} {way : List Ord} {t : ByteArray} (hp : prpL (l ++ [o]) = true) (hn : ∀ j (h : j < l.length), nwB o l[j] = true) (h : Ends Ord.fr Ord.to nwB (cntO o.pn day (l ++ [o])) o.to way t) (ha : anyI way o.id = true) : t = o.to := by
  refine new_back hp hn h ?_
  unfold anyI at ha
  obtain ⟨q, hq, e⟩ := List.any_eq_true.1 ha
  have e := of_decide_eq_true e
  have : q = o := id_inj (prp_nodup hp) q (way_mem h hq) o (by simp) e
  rw [← this]; exact hq
theorem new_arg {l : List Ord} {o : Ord} {day : Int} (hp : prpL (l ++ [o]) = true) (hc : cov (o.pf, o.pu) day = true) : argB (l ++ [o]) o.pn o.fr day = true ∧ argB (l ++ [o]) o.pn o.to day = true := by
  obtain ⟨n1, n2, n3, n4, _, _⟩ := one_parts (prp_all hp o (by simp))
  have hd := cov_day hc
  unfold argB
  simp [hp, n2, n3, n4, hd]
/-- memory in the walk of the law -/
def NI (w : World) (A : Option Addr) (l : List Ord) (o : Ord) (base g cap : Nat) (W : World) : Prop := RdO W A l ∧ Bx W w.heap.size o ∧ OwnO W base g cap (l ++ [o]) ∧ Below w.heap.size w W
theorem NI.keep {w : World} {A : Option Addr} {l : List Ord} {o : Ord} {base g cap : Nat} {W W' : World} (h : NI w A l o base g cap W) (hb : Below W.heap.size W W') : NI w A l o base g cap W' :=
  ⟨h.1.keep hb, h.2.1.keep hb, h.2.2.1.keep hb, h.2.2.2.trans (hb.mono h.2.2.2.size)⟩
theorem NI.gr {w : World} {A : Option Addr} {l : List Ord} {o : Ord} {base g cap : Nat} {W W' : World} (h : NI w A l o base g cap W) (hg : Gr W W') : NI w A l o base g cap W' := h.keep hg.below
theorem few_n (A : Option Addr) (c n : Nat) (l : List Ord) (w : World) {b : Bool} (h : fewB l = b) (hr : RdO w A l) (hn : l.length = n) : Calls Tryd.prog 10 #[.slice A n c] w fun e w' => e = .returned (.bool b) ∧ w = w' := by
  subst hn; exact few_at h w hr
theorem prop_n (A : Option Addr) (c n : Nat) (l : List Ord) (w : World) {b : Bool} (h : prpL l = b) (hf : fewB l = true) (hr : RdO w A l) (hn : l.length = n) : Calls Tryd.prog 18 #[.slice A n c] w fun e w' => e = .returned (.bool b) ∧ Below w.heap.size w w' := by
  subst hn
  have := proper_list A c l w hr (by have := few_len hf; omega) (fun o ho => by have k := few_mem hf ho; exact ⟨by omega, by omega, by omega, by omega⟩)
  rw [h] at this; exact this
theorem settle_n (A : Option Addr) (c n : Nat) (l : List Ord) (pn door : ByteArray) (day : Int) (w : World) (hL : Laid w) (hr : RdO w A l) (hf : fewB l = true) (ha : argB l pn door day = true) (hn : l.length = n) :
    Calls Tryd.prog 12 #[.slice A n c, .string pn, .string door, .int .i64 day] w (SPw (cntO pn day l) door w) := by
  subst hn; exact settle_w A c l pn door day w hL hr hf ha
end Go.Proofs.YtngbkdnkpolbfaaDoor
