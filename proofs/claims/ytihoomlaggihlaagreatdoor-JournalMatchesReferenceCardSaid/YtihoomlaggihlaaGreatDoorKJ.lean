/- The contract of the journal's Open, on a disk that is on and has three sectors at least. Under the condition that the tables lie in memory as the program lays them. -/
import Derived.Test.YtihoomlaggihlaaGreatDoorKI
import Derived.Deep.DeepCutAuto
import Derived.Deep.RegionHeld3
import Derived.Deep.RegionWith
import Derived.Lib.QuietBelow
namespace Go.Proofs.YtihoomlaggihlaaGreatDoor
open Go.RowKit

/-- the sectors as they were written last -/
def view (D : PD) : List (List UInt8) := settleS D.ss D.pend
/-- how Open ends -/
def OEnd (F : Nat → Prop) (d n : Nat) (D : PD) (w : World) (e : Ending) (w' : World) : Prop :=
  ((¬ ∃ c recs, Opn n (view D) c recs) ∧ e = .returned (.tuple #[.pointer none, .slice none 0 0, .int .i64 20]) ∧ Below w.heap.size w w') ∨
  (∃ c recs, Opn n (view D) c recs ∧ (D.runs (mend (view D) c)).2 = 21 ∧ e = .returned (.tuple #[.pointer none, .slice none 0 0, .int .i64 21]) ∧ ∃ F', DAt w' F' d n (D.runs (mend (view D) c)).1 ∧ Stp F w F' w') ∨
  (∃ c recs, Opn n (view D) c recs ∧ (D.runs (mend (view D) c)).2 = 0 ∧ ∃ jb gv F' G, e = .returned (.tuple #[.pointer (some ⟨jb, 0, none⟩), gv, .int .i64 0]) ∧ DAt w' F' d n (D.runs (mend (view D) c)).1 ∧ Stp F w F' w' ∧
    JAt w' G jb d n c recs false ∧ (∀ k, G k → w.heap.size ≤ k) ∧ (∀ k, F' k → ¬ G k) ∧ w'.ownsRow w.heap.size 9 1 gv recs.length (strs recs) ∧ ∀ k, gv.ownBlock = some k → ¬ F' k ∧ ¬ G k)
/-- what has been read, and the journal's block -/
structure RF (D : PD) (d n g cp jb : Nat) (C : Int) (rv : Value) (wo w : World) : Prop where
  row : w.ownsRow wo.heap.size 9 1 (.slice (some ⟨g, 0, none⟩) n cp) n (strs (secs D n))
  jour : w.heap[jb]? = some (.cells #[.pointer (some ⟨d, 0, none⟩), .int .i64 n, .int .i64 C, rv, .bool false] 53 (0, 0))
  bel : Below wo.heap.size wo w
  new : wo.heap.size ≤ jb
theorem RF.keep {D : PD} {d n g cp jb : Nat} {C : Int} {rv : Value} {wo w w' : World} (h : RF D d n g cp jb C rv wo w) (hb : Below w.heap.size w w') : RF D d n g cp jb C rv wo w' :=
  ⟨own_below h.row hb, (hb.block _ (heap_lt h.jour)).trans h.jour, h.bel.trans (hb.mono h.bel.size), h.new⟩
theorem RF.cell {D : PD} {d n g cp jb : Nat} {C : Int} {rv : Value} {wo w : World} (h : RF D d n g cp jb C rv wo w) {i : Nat} (hi : i < n) : w.cell? ⟨g, i, none⟩ = some (.string ⟨(D.rd i).toArray⟩) := by
  rcases h.row.2 with ⟨e, _⟩ | ⟨g', cap, cur, e, _, hg, hc, _, _, ht⟩
  · cases e
  · cases e
    refine cell_at hg ?_
    have e : (cur.toList.take (n * 1))[i]? = (strs (secs D n))[i]? := by rw [ht]
    rw [List.getElem?_take_of_lt (by omega)] at e
    simpa [strs, secs, hi] using e
theorem RF.lt {D : PD} {d n g cp jb : Nat} {C : Int} {rv : Value} {wo w : World} (h : RF D d n g cp jb C rv wo w) : g < w.heap.size ∧ n ≤ cp ∧ g ≠ jb := by
  rcases h.row.2 with ⟨e, _⟩ | ⟨g', cap, cur, e, _, hg, hc, _⟩
  · cases e
  · cases e
    exact ⟨heap_lt hg, hc, tag_ne hg h.jour (by decide)⟩
theorem RF.j {D : PD} {d n g cp jb : Nat} {C : Int} {rv : Value} {wo w : World} (h : RF D d n g cp jb C rv wo w) : jb < w.heap.size ∧ w.cell? ⟨jb, 0, none⟩ = some (.pointer (some ⟨d, 0, none⟩)) ∧ w.cell? ⟨jb, 1, none⟩ = some (.int .i64 n) ∧ w.cell? ⟨jb, 2, none⟩ = some (.int .i64 C) ∧ w.cell? ⟨jb, 3, none⟩ = some rv ∧ ∀ i, w.frozen? ⟨jb, i, none⟩ = false :=
  ⟨heap_lt h.jour, cell_at h.jour rfl, cell_at h.jour rfl, cell_at h.jour rfl, cell_at h.jour rfl, fun i => frozen_at h.jour i⟩
theorem RF.setC {D : PD} {d n g cp jb : Nat} {C : Int} {rv : Value} {wo w : World} (h : RF D d n g cp jb C rv wo w) (C' : Int) : RF D d n g cp jb C' rv wo (w.setCell ⟨jb, 2, none⟩ (.int .i64 C')) := by
  have o : Out (· = jb) w (w.setCell ⟨jb, 2, none⟩ (.int .i64 C')) := Out.set w (a := ⟨jb, 2, none⟩) _ rfl
  refine ⟨o.own h.row (fun k hk e => ?_), ?_, h.bel.setCell (p := ⟨jb, 2, none⟩) h.new _, h.new⟩
  · simp [Value.ownBlock] at hk
    exact h.lt.2.2 (hk.trans e)
  · have k := heap_setCell_same w jb 2 _ _ (.int .i64 C') h.jour
    simpa using k
theorem RF.setR {D : PD} {d n g cp jb : Nat} {C : Int} {rv : Value} {wo w : World} (h : RF D d n g cp jb C rv wo w) (rv' : Value) : RF D d n g cp jb C rv' wo (w.setCell ⟨jb, 3, none⟩ rv') := by
  have o : Out (· = jb) w (w.setCell ⟨jb, 3, none⟩ rv') := Out.set w (a := ⟨jb, 3, none⟩) _ rfl
  refine ⟨o.own h.row (fun k hk e => ?_), ?_, h.bel.setCell (p := ⟨jb, 3, none⟩) h.new _, h.new⟩
  · simp [Value.ownBlock] at hk
    exact h.lt.2.2 (hk.trans e)
  · have k := heap_setCell_same w jb 3 _ _ rv' h.jour
    simpa using k
/-- pieces read so far -/
def Pcs (D : PD) (m : Nat) (ts : List (List UInt8)) (wc w : World) : Prop :=
  ts.length = m ∧ (∀ j (h : j < ts.length), 1 ≤ ts[j].length ∧ ts[j].length ≤ 46 ∧ D.rd (2 + j) = sectP (2 + j) ts[j]) ∧ Lib.IsBuilderF 58 5 wc.heap.size wc.heap.size (Lib.byteCells ts.flatten) w ∧ Below wc.heap.size wc w
theorem Pcs.next {D : PD} {m : Nat} {ts : List (List UInt8)} {t : List UInt8} {wc w w' : World} (h : Pcs D m ts wc w) (h1 : 1 ≤ t.length) (h2 : t.length ≤ 46) (h3 : D.rd (2 + m) = sectP (2 + m) t) (hb : Lib.IsBuilderF 58 5 wc.heap.size wc.heap.size (Lib.byteCells ts.flatten ++ Lib.byteCells t) w') (hw : Below wc.heap.size wc w') : Pcs D (m + 1) (ts ++ [t]) wc w' := by
  obtain ⟨a, b, _, _⟩ := h
  refine ⟨by simp [a], fun j hj => ?_, ?_, hw⟩
  · by_cases hc : j < ts.length
    · rw [List.getElem_append_left hc]; exact b j hc
    · have : j = ts.length := by simp at hj; omega
      subst this
      rw [List.getElem_append_right (Nat.le_refl _)]
      simp only [Nat.sub_self, List.getElem_cons_zero]
      rw [a]
      exact ⟨h1, h2, h3⟩
  · rw [List.flatten_append]
    simp only [List.flatten_cons, List.flatten_nil, List.append_nil]
    rw [byte_app]
    exact hb
theorem Pcs.len {D : PD} {m : Nat} {ts : List (List UInt8)} {wc w : World} (h : Pcs D m ts wc w) : ts.flatten.length ≤ 46 * m := by
  obtain ⟨a, b, _, _⟩ := h
  subst a
  have key : ∀ (l : List (List UInt8)), (∀ t ∈ l, t.length ≤ 46) → l.flatten.length ≤ 46 * l.length := by
    intro l
    induction l with
    | nil => intro _; simp
    | cons t l ih => intro h; have := ih (fun u hu => h u (by simp [hu])); have := h t (by simp); rw [List.flatten_cons, List.length_append, List.length_cons]; omega
  refine key ts (fun t ht => ?_)
  obtain ⟨i, hi, rfl⟩ := List.getElem_of_mem ht
  exact (b i hi).2.1
theorem atoi_some (s : ByteArray) (w : World) (hs : s.size ≤ 1000000) (hL : Laid w) : Calls Tryz.prog 34 #[.string s] w fun e w' => ∃ (v : Int) (ev : Value), e = .returned (.tuple #[.int .i64 v, ev]) ∧ (∀ n, Lib.atoiAll s.data.toList = .ok n → v = n) ∧ Below w.heap.size w w' := by
  by_cases h : ∃ v, Lib.atoiAll s.data.toList = .ok v
  · obtain ⟨v, hv⟩ := h
    refine (atoi_yes s w hs v hv).mono ?_
    rintro e w' ⟨rfl, hb⟩
    exact ⟨v, _, rfl, fun n hn => by rw [hv] at hn; exact Lib.NumEnd.ok.inj hn, hb⟩
  · refine (atoi_no s w hs hL (fun v e => h ⟨v, e⟩)).mono ?_
    rintro e w' ⟨v, N, rfl, hb⟩
    exact ⟨v, _, rfl, fun n hn => absurd ⟨n, hn⟩ h, hb⟩
/-- no piece in a sector: nothing opens -/
theorem no_piece {D : PD} {n cn m : Nat} (hm : m < cn) (top : ∀ c recs, Opn n (view D) c recs → (cn : Int) = (c : Int)) (h : ¬ ∃ t : List UInt8, 1 ≤ t.length ∧ t.length ≤ 46 ∧ D.rd (2 + m) = sectP (2 + m) t) : ¬ ∃ c recs, Opn n (view D) c recs := by
  rintro ⟨c, recs, o⟩
  have e := top c recs o
  obtain ⟨ts, h1, h2, _⟩ := o.body
  exact h ⟨ts[m]'(by omega), h2 m (by omega)⟩
theorem same_pieces {D : PD} {n cn : Nat} {ts : List (List UInt8)} {wc w : World} (h : Pcs D cn ts wc w) {c : Nat} {recs : List (List UInt8)} (o : Opn n (view D) c recs) (hc : (cn : Int) = (c : Int)) : ts.flatten = textP recs := by
  obtain ⟨us, h1, h2, h3⟩ := o.body
  obtain ⟨a, b, _, _⟩ := h
  rw [← h3]
  congr 1
  apply List.ext_getElem (by omega)
  intro i hi hi'
  have x := b i hi
  have y := h2 i hi'
  exact sect_inj x.2.1 y.2.1 (x.2.2.symm.trans y.2.2)
theorem yes_pieces {D : PD} {n cn : Nat} {ts recs : List (List UInt8)} {wc w : World} (h : Pcs D cn ts wc w) (top : max (cnt 0 ((view D).getD 0 []) (n - 2)) (cnt 1 ((view D).getD 1 []) (n - 2)) = (cn : Int)) (hf : ts.flatten = textP recs) (ho : okR recs) : Opn n (view D) cn recs := ⟨top, ⟨ts, h.1, h.2.1, hf⟩, ho⟩
/-- heads still to be mended -/
def rest (S : List (List UInt8)) (c p : Nat) : List (List (Nat × List UInt8)) := if p = 0 then mend S c else if p = 1 then mendAt S 1 c else []
theorem rest_0 (S : List (List UInt8)) (c : Nat) : rest S c 0 = mendAt S 0 c ++ rest S c 1 := rfl
theorem rest_1 (S : List (List UInt8)) (c : Nat) : rest S c 1 = mendAt S 1 c ++ rest S c 2 := by simp [rest]
theorem rest_p (S : List (List UInt8)) (c p : Nat) (hp : p < 2) : rest S c p = mendAt S p c ++ rest S c (p + 1) := by
  rcases Nat.eq_zero_or_pos p with rfl | h
  · exact rest_0 S c
  · obtain rfl : p = 1 := by omega
    exact rest_1 S c
/-- mending, so far -/
structure ML (D : PD) (F : Nat → Prop) (d n g cp jb c : Nat) (R : List (List (Nat × List UInt8))) (rv : Value) (recs : List (List UInt8)) (E : PD) (F' : Nat → Prop) (wo w : World) : Prop where
  dat : DAt w F' d n E
  stp : Stp F wo F' w
  todo : D.runs (mend (view D) c) = E.runs R
  pend : E.pend.length ≤ 1000
  row : SR w F' (.slice (some ⟨g, 0, none⟩) n cp) (secs D n)
  jour : w.heap[jb]? = some (.cells #[.pointer (some ⟨d, 0, none⟩), .int .i64 n, .int .i64 c, rv, .bool false] 53 (0, 0))
  nj : ¬ F' jb
  rrow : w.ownsRow wo.heap.size 9 1 rv recs.length (strs recs)
  nr : ∀ k, rv.ownBlock = some k → ¬ F' k
  laid : Laid w
theorem textP_two : ∀ l : List (List UInt8), 2 * l.length ≤ (textP l).length
  | [] => by simp
  | r :: l => by
    have := textP_two l
    have := List.length_pos_iff.2 (dec_ne r.length)
    rw [textP_cons]
    simp
    omega
theorem own_base {w : World} {base b2 e size n : Nat} {v : Value} {xs : List Value} (h : w.ownsRow base e size v n xs) (hb : b2 ≤ base) : w.ownsRow b2 e size v n xs := by
  refine ⟨h.1, ?_⟩
  rcases h.2 with x | ⟨g, cap, cur, e1, e2, e3⟩
  · exact Or.inl x
  · exact Or.inr ⟨g, cap, cur, e1, Nat.le_trans hb e2, e3⟩
theorem ML.below {D : PD} {F : Nat → Prop} {d n g cp jb c : Nat} {R : List (List (Nat × List UInt8))} {rv : Value} {recs : List (List UInt8)} {E : PD} {F' : Nat → Prop} {wo w w' : World} (h : ML D F d n g cp jb c R rv recs E F' wo w) (hb : Below w.heap.size w w')   : ML D F d n g cp jb c R rv recs E F' wo w' :=
  ⟨h.dat.below hb, h.stp.trans (Stp.below hb), h.todo, h.pend, h.row.below hb, (hb.block _ (heap_lt h.jour)).trans h.jour, h.nj, own_below h.rrow hb, h.nr, h.laid.keep hb⟩
theorem ML.cell {D : PD} {F : Nat → Prop} {d n g cp jb c : Nat} {R : List (List (Nat × List UInt8))} {rv : Value} {recs : List (List UInt8)} {E : PD} {F' : Nat → Prop} {wo w : World} (h : ML D F d n g cp jb c R rv recs E F' wo w) {i : Nat} (hi : i < n) : w.cell? ⟨g, i, none⟩ = some (.string ⟨(D.rd i).toArray⟩) := by
  obtain ⟨a, cc, e, _, hcs⟩ := h.row
  obtain ⟨b, o, e1, _, e2⟩ := hcs i (by rw [secs_len]; exact hi)
  injection e with ea
  rw [e1] at ea
  injection ea with ea
  injection ea with eb eo
  subst eb
  subst eo
  rw [Nat.zero_add, secs_get] at e2
  exact e2
theorem ML.init {D : PD} {F : Nat → Prop} {d n g cp jb c B : Nat} {rv rv0 : Value} {recs : List (List UInt8)} {wo w : World} (h : DAt wo F d n D) (hL : Laid wo) (hm : D.pend.length ≤ 1000) (hR : RF D d n g cp jb c rv0 wo w) (ho : w.ownsRow B 9 1 rv recs.length (strs recs)) (hB : wo.heap.size ≤ B) : ML D F d n g cp jb c (rest (view D) c 0) rv recs D F wo (w.setCell ⟨jb, 3, none⟩ rv) := by
  have R7 := hR.setR rv
  have HO7 : Out (· = jb) w (w.setCell ⟨jb, 3, none⟩ rv) := Out.set w (a := ⟨jb, 3, none⟩) _ rfl
  have hown := HO7.own ho (fun q hq e => by subst e; exact own_tag ho hR.jour (by decide) hq)
  have hbase : ∀ q, rv.ownBlock = some q → wo.heap.size ≤ q := fun q hq => Nat.le_trans hB (ho.lt q hq).1
  have nF : ∀ q, wo.heap.size ≤ q → ¬ F q := fun q hq x => by have := h.lt q x; omega
  have hg0 : wo.heap.size ≤ g := (hR.row.lt g rfl).1
  have hrow : SR (w.setCell ⟨jb, 3, none⟩ rv) F (.slice (some ⟨g, 0, none⟩) n cp) (secs D n) := by
    refine SR.own (base := wo.heap.size) ?_ (fun q hq => ?_)
    · rw [secs_len]; exact R7.row
    · simp [Value.ownBlock] at hq
      subst hq
      exact nF _ hg0
  refine ⟨h.below R7.bel, Stp.below R7.bel, rfl, hm, hrow, R7.jour, nF _ hR.new, ⟨hown.1, ?_⟩, fun q hq => nF q (hbase q hq), hL.keep R7.bel⟩
  rcases hown.2 with x | ⟨q, cap, cur, e1, _, e3⟩
  · exact Or.inl x
  · exact Or.inr ⟨q, cap, cur, e1, hbase q (by rw [e1]; rfl), e3⟩
theorem ML.done {D : PD} {F : Nat → Prop} {d n g cp jb c : Nat} {rv gv : Value} {recs : List (List UInt8)} {E : PD} {F' : Nat → Prop} {wo w w' : World} (h : ML D F d n g cp jb c (rest (view D) c 2) rv recs E F' wo w) (ho : Opn n (view D) c recs) (hc : c + 2 ≤ n) (hrl : recs.length ≤ 100000) (hjw : wo.heap.size ≤ jb) (hg : w'.ownsRow w.heap.size 9 1 gv recs.length (strs recs)) (hb : Below w.heap.size w w') :
    OEnd F d n D wo (.returned (.tuple #[.pointer (some ⟨jb, 0, none⟩), gv, .int .i64 0])) w' := by
  have e : D.runs (mend (view D) c) = (E, 0) := by rw [h.todo]; rfl
  refine Or.inr (Or.inr ⟨c, recs, ho, by rw [e], jb, gv, F', fun q => q = jb ∨ rv.ownBlock = some q, rfl, by rw [e]; exact h.dat.below hb, h.stp.trans (Stp.below hb), ⟨⟨rv, (hb.block _ (heap_lt h.jour)).trans h.jour, own_base (own_below h.rrow hb) (Nat.zero_le _), fun q hq => Or.inr hq⟩, Or.inl rfl, ?_, hc, hrl⟩, ?_, ?_, own_base hg h.stp.out.size, fun q hq => ?_⟩)
  · rintro q (rfl | hq)
    · exact Nat.lt_of_lt_of_le (heap_lt h.jour) hb.size
    · exact Nat.lt_of_lt_of_le (h.rrow.lt q hq).2 hb.size
  · rintro q (rfl | hq)
    · exact hjw
    · exact (h.rrow.lt q hq).1
  · rintro q hF (rfl | hq)
    · exact h.nj hF
    · exact h.nr q hq hF
  · have hq2 := (hg.lt q hq).1
    refine ⟨fun x => by have := h.dat.lt q x; omega, ?_⟩
    rintro (rfl | hr)
    · have := heap_lt h.jour; omega
    · have := (h.rrow.lt q hr).2; omega
theorem writes_cases : ∀ (l : List (Nat × List UInt8)) (E : PD), (E.writes l).2 = 0 ∨ (E.writes l).2 = 21
  | [], E => by
    show (E.sync).2 = 0 ∨ (E.sync).2 = 21
    unfold PD.sync
    split
    · exact Or.inr rfl
    · split
      · exact Or.inl rfl
      · exact count_cases E
  | p :: l, E => by
    unfold PD.writes
    split
    · exact writes_cases l _
    · exact write_cases _ _ _
theorem writes_pend : ∀ (l : List (Nat × List UInt8)) (E : PD), (E.writes l).2 = 0 → (E.writes l).1.pend = []
  | [], E, h => by
    change (E.sync).2 = 0 at h
    show (E.sync).1.pend = []
    unfold PD.sync at *
    split
    · rename_i x; rw [if_pos x] at h; cases h
    · rename_i x
      rw [if_neg x] at h
      split
      · rfl
      · rename_i y; rw [if_neg y] at h; exact absurd h y
  | p :: l, E, h => by
    unfold PD.writes at *
    split
    · rename_i x; rw [if_pos x] at h; exact writes_pend l _ h
    · rename_i x; rw [if_neg x] at h; exact absurd h x
theorem ML.skip {D : PD} {F : Nat → Prop} {d n g cp jb c p : Nat} {rv : Value} {recs : List (List UInt8)} {E : PD} {F' : Nat → Prop} {wo w : World} (h : ML D F d n g cp jb c (rest (view D) c p) rv recs E F' wo w) (hp : p < 2) (hk : okHead p (D.rd p) c) : ML D F d n g cp jb c (rest (view D) c (p + 1)) rv recs E F' wo w := by
  refine { h with todo := ?_ }
  rw [h.todo, rest_p _ _ _ hp, mendAt_ok (S := view D) hk, List.nil_append]
theorem ML.bad {D : PD} {F : Nat → Prop} {d n g cp jb c p : Nat} {rv : Value} {recs : List (List UInt8)} {E : PD} {F' : Nat → Prop} {wo w : World} (h : ML D F d n g cp jb c (rest (view D) c p) rv recs E F' wo w) (hp : p < 2) (hk : ¬ okHead p (D.rd p) c) : ML D F d n g cp jb c ([(p, zeroT)] :: ((if 0 < c then [[(p, headP p c)]] else []) ++ rest (view D) c (p + 1))) rv recs E F' wo w := by
  refine { h with todo := ?_ }
  rw [h.todo, rest_p _ _ _ hp]
  unfold mendAt
  rw [if_neg (show ¬ okHead p ((view D).getD p []) c from hk)]
  rfl
theorem ML.seg {D : PD} {F : Nat → Prop} {d n g cp jb c : Nat} {s : List (Nat × List UInt8)} {R : List (List (Nat × List UInt8))} {rv : Value} {recs : List (List UInt8)} {E : PD} {F' F'' : Nat → Prop} {wo w w' : World} (h : ML D F d n g cp jb c (s :: R) rv recs E F' wo w) (hF : ∀ k, F k → 6 ≤ k) (h6 : 6 ≤ wo.heap.size) (h0 : (E.writes s).2 = 0) (hd : DAt w' F'' d n (E.writes s).1) (hs : Stp F' w F'' w') : ML D F d n g cp jb c R rv recs (E.writes s).1 F'' wo w' := by
  have nb : ∀ k, k < w.heap.size → ¬ F' k → ¬ F'' k := fun k hk hn hx => by
    rcases hs.sub k hx with y | y
    · exact hn y
    · omega
  have hF' : ∀ k, F' k → 6 ≤ k := fun k hk => by
    rcases h.stp.sub k hk with y | y
    · exact hF k y
    · omega
  refine ⟨hd, h.stp.trans hs, ?_, by rw [writes_pend _ _ h0]; simp, h.row.stp hs, hs.out.heap h.jour h.nj, nb _ (heap_lt h.jour) h.nj, hs.out.own h.rrow h.nr, fun k hk => nb k (h.rrow.lt k hk).2 (h.nr k hk), h.laid.out hs.out hF'⟩
  rw [h.todo, PD.runs, if_pos h0]
theorem ML.stop {D : PD} {F : Nat → Prop} {d n g cp jb c : Nat} {s : List (Nat × List UInt8)} {R : List (List (Nat × List UInt8))} {rv : Value} {recs : List (List UInt8)} {E : PD} {F' F'' : Nat → Prop} {wo w w' : World} (h : ML D F d n g cp jb c (s :: R) rv recs E F' wo w) (ho : Opn n (view D) c recs) (h0 : (E.writes s).2 = 21) (hd : DAt w' F'' d n (E.writes s).1) (hs : Stp F' w F'' w') : OEnd F d n D wo (.returned (.tuple #[.pointer none, .slice none 0 0, .int .i64 21])) w' := by
  have e : D.runs (mend (view D) c) = E.writes s := by rw [h.todo, PD.runs, if_neg (by rw [h0]; decide)]
  exact Or.inr (Or.inl ⟨c, recs, ho, by rw [e]; exact h0, rfl, F'', by rw [e]; exact hd, h.stp.trans hs⟩)
theorem sr_one {w : World} {F : Nat → Prop} (t : List UInt8) (hF : ∀ k, F k → k < w.heap.size) : SR (w.alloc (.cells #[.string ⟨t.toArray⟩] 9)) F (.slice (some ⟨w.heap.size, 0, none⟩) 1 1) [t] := by
  refine ⟨_, 1, rfl, Nat.le_refl _, fun k hk => ⟨w.heap.size, 0, rfl, fun x => by have := hF _ x; omega, ?_⟩⟩
  obtain rfl : k = 0 := by simpa using hk
  exact cell_at (heap_alloc_new w _) rfl
set_option maxHeartbeats 16000000 in
set_option maxRecDepth 100000 in
theorem open_main (w : World) (F : Nat → Prop) (d n : Nat) (D : PD) (h : DAt w F d n D) (ho : D.off = false) (hm : D.pend.length ≤ 1000) (hn3 : 3 ≤ n) (hF6 : ∀ k, F k → 6 ≤ k) (hL : Laid w) :
    Calls Tryz.prog 7 #[.pointer (some ⟨d, 0, none⟩)] w (OEnd F d n D w) := by
  have HD := Lib.hid h
  have HO := Lib.hid ho
  have HL := Lib.hid hL
  have HF6 := Lib.hid hF6
  have hn4 := h.n4
  have HLN := Lib.hid (fun i (hi : i < n) => (h.vd.sec.settle h.vd.whole.le).at hi)
  have H0 : Hid (Got D 0 (.slice none 0 0) w w) := Lib.hid ⟨by simpa [secs, strs] using World.ownsRow_nil w w.heap.size 9 1, Below.refl _ _⟩
  clear h ho hL hF6
  go_enter Tryz.func7, Tryz.ntmps7
  go_wp2_with fail
  obtain ⟨wo, rfl⟩ : ∃ wo : World, wo = w := ⟨_, rfl⟩
  go_loopw [5, 6, 7] (fun v _ _ wr => ∃ (k : Nat), k ≤ n ∧ sliceLen v = k ∧ Hid (Got D k v wo wr)) (fun v _ _ _ => n - sliceLen v)
  case atStart => exact ⟨0, by omega, rfl, H0⟩
  case round =>
    clear H0
    obtain ⟨k, hk, hv, M⟩ := hrel
    have HV := Lib.hid hv
    have hz : wo.heap.size ≤ wr.heap.size := M.out.2.size
    obtain ⟨a, c, rfl⟩ : ∃ a c, u5 = .slice a k c := by
      rcases M.out.1.2 with ⟨rfl, e⟩ | ⟨g, cap, cur, rfl, _⟩
      · exact ⟨none, 0, by rw [e]⟩
      · exact ⟨_, _, rfl⟩
    clear hv
    have HDR := Lib.hid (HD.out.below M.out.2)
    by_cases hlt : k < n
    · have HR := Lib.hid (read_yes wr F d n D k HDR.out HO.out hlt (by omega))
      obtain ⟨i9, hi9, ha9, hb9, hc9⟩ := info_parts info9
      go_wp2_with fail
      refine HR.out.mono ?_
      rintro e w2 ⟨rfl, hb⟩
      have HB := Lib.hid hb
      have hz2 := hb.size
      have HST := Lib.hid (fun v' w' => M.out.next (v' := v') (w' := w') (hb.alloc hb.size (.cells #[.string ⟨(D.rd k).toArray⟩] 9)))
      have HO2 := Lib.hid (own_below M.out.1 (hb.alloc hb.size (.cells #[.string ⟨(D.rd k).toArray⟩] 9)))
      clear hb HR
      go_wp2_with (at_builtin; refine wpList_append_own _ rfl (.tmp 32) (.tmp 34) 26 rfl wo.heap.size 9 i9 _ 1 16 Tryz.underlying26 hi9 ha9 hb9 hc9 rfl (by decide) _ k (strs (secs D k)) rfl HO2.out ⟨w2.heap.size, 0, none⟩ 1 1 (strs [D.rd k]) rfl rfl (news_one _ _ _) (strs_one _) (by unfold maxLen; omega) (by omega) (by simp; omega) ?_)
      intro v' w3 ho3 hg3 _
      have M2 := Lib.hid (HST.out v' w3 ho3 hg3)
      have HLN := Lib.hid (own_len ho3)
      clear ho3 hg3 HST HO2
      go_wp2_with fail
      go_roundw
      case rel => exact ⟨k + 1, by omega, HLN.out, M2⟩
      case measure =>
        show n - sliceLen v' < n - k
        rw [HLN.out]
        omega
    · obtain rfl : k = n := by omega
      have HR := Lib.hid (read_no wr F d k D k HDR.out HO.out (Nat.le_refl _))
      have hk3 : ¬ (k : Int) < 3 := by omega
      go_wp2_with fail
      refine HR.out.mono ?_
      rintro e w2 ⟨rfl, hb⟩
      have HB := Lib.hid hb
      obtain ⟨g, rfl⟩ : ∃ g, a = some ⟨g, 0, none⟩ := by
        rcases M.out.1.2 with ⟨e, e2⟩ | ⟨g, cap, cur, e, _⟩
        · omega
        · cases e; exact ⟨g, rfl⟩
      have R1 : Hid (RF D d k g c w2.heap.size 0 (.slice none 0 0) wo (w2.alloc (.cells #[.pointer (some ⟨d, 0, none⟩), .int .i64 k, .int .i64 0, .slice none 0 0, .bool false] 53))) := Lib.hid
        ⟨own_below M.out.1 (hb.alloc hb.size _), heap_alloc_new _ _, M.out.2.trans ((hb.alloc hb.size _).mono hz), Nat.le_trans hz hb.size⟩
      clear hb HR hz HB M HDR
      go_upto_region 12 with fail
      have hbj : w2.heap.size < (w2.alloc (.cells #[.pointer (some ⟨d, 0, none⟩), .int .i64 k, .int .i64 0, .slice none 0 0, .bool false] 53)).heap.size := by simp
      generalize w2.alloc (.cells #[.pointer (some ⟨d, 0, none⟩), .int .i64 k, .int .i64 0, .slice none 0 0, .bool false] 53) = w3 at *
      generalize w2.heap.size = jb at *
      go_cut [8] (fun s8 wx => s8 = .pointer (some ⟨jb, 0, none⟩) ∧ RF D d k g c jb (max (cnt 0 (D.rd 0) (k - 2)) (cnt 1 (D.rd 1) (k - 2))) (.slice none 0 0) wo wx)
      case first =>
        have RD := Lib.hid (R1.out.keep (Gr.drewn w3).below)
        have LD := Lib.hid (HL.out.keep RD.out.bel)
        have a0 : w3.cell? ⟨g, 0, none⟩ = some (.string ⟨(D.rd 0).toArray⟩) := R1.out.cell (by omega)
        have a1 : w3.cell? ⟨g, 1, none⟩ = some (.string ⟨(D.rd 1).toArray⟩) := R1.out.cell (by omega)
        have hcp := R1.out.lt.2.1
        have k0 : (0 : Int) < (k : Int) := by omega
        have k1 : (1 : Int) < (k : Int) := by omega
        have kn0 : 0 < k := by omega
        have kn1 : 1 < k := by omega
        have HC0 := Lib.hid (fun (W : World) (hW : Laid W) => count_any' W 0 (k - 2) (D.rd 0) (HLN.out 0 (by omega)) (by decide) (by omega) hW)
        have HC1 := Lib.hid (fun (W : World) (hW : Laid W) => count_any' W 1 (k - 2) (D.rd 1) (HLN.out 1 (by omega)) (by decide) (by omega) hW)
        have hw2 : IntKind.i64.wrap ((k : Int) - 2) = ((k - 2 : Nat) : Int) := by rw [IntWalk.i64_in _ (by omega)]; omega
        generalize hC0 : cnt 0 (D.rd 0) (k - 2) = C0 at *
        generalize hC1 : cnt 1 (D.rd 1) (k - 2) = C1 at *
        clear hC0 hC1 hk3
        go_region_held3 (fun w' => w'.cell? ⟨g, 0, none⟩ = some (.string ⟨(D.rd 0).toArray⟩) ∧ w'.cell? ⟨g, 1, none⟩ = some (.string ⟨(D.rd 1).toArray⟩)) (first | exact ⟨s0, s1⟩ | exact ⟨z0, z1⟩ | exact ⟨y0, y1⟩ | (go_keep; done) | (go_split_ands; refine ⟨?_, ?_⟩ <;> go_keep) | ((try dsimp only); refine ⟨?_, ?_⟩ <;> (simp [*]; done)))
          (first
            | (go_at_call_of 33 (Value.int IntKind.i64 (0 : Int)); refine (HC0.out _ LD.out).mono ?_; rintro e w4 ⟨rfl, hb⟩; (have RA := Lib.hid (RD.out.keep hb)); (have LA := Lib.hid (HL.out.keep RA.out.bel)); (have y0 := RA.out.cell (show 0 < k by omega)); (have y1 := RA.out.cell (show 1 < k by omega)); clear hb)
            | (go_at_call_of 33 (Value.int IntKind.i64 (1 : Int)); refine (HC1.out _ LD.out).mono ?_; rintro e w4 ⟨rfl, hb⟩; (have RA := Lib.hid (RD.out.keep hb)); (have LA := Lib.hid (HL.out.keep RA.out.bel)); (have y0 := RA.out.cell (show 0 < k by omega)); (have y1 := RA.out.cell (show 1 < k by omega)); clear hb)
            | (go_at_call_of 33 (Value.int IntKind.i64 (0 : Int)); refine (HC0.out _ LA.out).mono ?_; rintro e w5 ⟨rfl, hb⟩; (have RB := Lib.hid (RA.out.keep hb)); (have z0 := RB.out.cell (show 0 < k by omega)); (have z1 := RB.out.cell (show 1 < k by omega)); (have zj := RB.out.j.2.2.2.1); (have zf := RB.out.j.2.2.2.2.2 2); (have zl := RB.out.j.1); (have s0 := (RB.out.setC (max C0 C1)).cell (show 0 < k by omega)); (have s1 := (RB.out.setC (max C0 C1)).cell (show 1 < k by omega)); clear hb)
            | (go_at_call_of 33 (Value.int IntKind.i64 (1 : Int)); refine (HC1.out _ LA.out).mono ?_; rintro e w5 ⟨rfl, hb⟩; (have RB := Lib.hid (RA.out.keep hb)); (have z0 := RB.out.cell (show 0 < k by omega)); (have z1 := RB.out.cell (show 1 < k by omega)); (have zj := RB.out.j.2.2.2.1); (have zf := RB.out.j.2.2.2.2.2 2); (have zl := RB.out.j.1); (have s0 := (RB.out.setC (max C0 C1)).cell (show 0 < k by omega)); (have s1 := (RB.out.setC (max C0 C1)).cell (show 1 < k by omega)); clear hb))
        all_goals (
          go_wp2_with fail
          go_meet
          case rel => exact ⟨rfl, RB.out.setC _⟩)
      case rest =>
        obtain ⟨rfl, hR⟩ := hcut
        have R2 := Lib.hid hR
        clear hR R1
        have hCle : max (cnt 0 (D.rd 0) (k - 2)) (cnt 1 (D.rd 1) (k - 2)) ≤ ((k - 2 : Nat) : Int) := by
          have h0 := cnt_le (p := 0) (s := D.rd 0) (room := k - 2) (c := ((k - 2 : Nat) : Int)) (by omega) (by omega) (fun n hn _ => by omega)
          have h1 := cnt_le (p := 1) (s := D.rd 1) (room := k - 2) (c := ((k - 2 : Nat) : Int)) (by omega) (by omega) (fun n hn _ => by omega)
          omega
        have HTOP := Lib.hid (show ∀ c recs, Opn k (view D) c recs → max (cnt 0 (D.rd 0) (k - 2)) (cnt 1 (D.rd 1) (k - 2)) = (c : Int) from fun c recs o => o.top)
        have HTOP2 := Lib.hid (show max (cnt 0 ((view D).getD 0 []) (k - 2)) (cnt 1 ((view D).getD 1 []) (k - 2)) = max (cnt 0 (D.rd 0) (k - 2)) (cnt 1 (D.rd 1) (k - 2)) from rfl)
        generalize max (cnt 0 (D.rd 0) (k - 2)) (cnt 1 (D.rd 1) (k - 2)) = C at *
        by_cases hneg : C < 0
        · obtain ⟨hjl, _, _, j2, _⟩ := R2.out.j
          go_wp2_with fail
          go_ret3
          exact Or.inl ⟨fun ⟨c, recs, o⟩ => by have := HTOP.out c recs o; omega, rfl, R2.out.bel⟩
        · obtain ⟨cn, rfl⟩ : ∃ cn : Nat, C = cn := ⟨C.toNat, by omega⟩
          have hcn : cn + 2 ≤ k := by omega
          clear hneg hCle
          obtain ⟨hjl, j0, j1, j2, j3, jf⟩ := R2.out.j
          obtain ⟨hgl, hcp, hgj⟩ := R2.out.lt
          clear jf
          have c0 : (0 : Int) ≤ (cn : Int) := Int.natCast_nonneg _
          have c1 : (2 : Int) + (cn : Int) ≤ (c : Int) := by omega
          have c2 : (2 : Int) ≤ 2 + (cn : Int) := by omega
          have c3 : ¬ c = 2 := by omega
          have c4 : ((2 : Int) + (cn : Int)).toNat - 2 = cn := by omega
          have HB0 : Hid (Pcs D 0 [] wc (wc.alloc (.cells #[.pointer none, .slice none 0 0] 58))) := Lib.hid ⟨rfl, fun j hj => absurd hj (by simp), build0 wc, (Gr.one wc _).below⟩
          go_wp2_with fail
          generalize wc.alloc (.cells #[.pointer none, .slice none 0 0] 58) = wd at *
          clear wr
          go_loopw [10, 11, 12, 13, 75] (fun _ _ _ _ i wr2 => ∃ (m : Nat) (ts : List (List UInt8)), m ≤ cn ∧ i = .int .i64 m ∧ Hid (Pcs D m ts wc wr2)) (fun _ _ _ _ i _ => cn - (intOf i).toNat)
          case atStart => exact ⟨0, [], by omega, rfl, HB0⟩
          case round =>
            clear HB0
            obtain ⟨m, ts, hmc, rfl, P⟩ := hrel
            have R3 := Lib.hid (R2.out.keep P.out.2.2.2)
            have L3 := Lib.hid (HL.out.keep R3.out.bel)
            have m0 : (0 : Int) ≤ (m : Int) := Int.natCast_nonneg _
            have hzc : wc.heap.size ≤ wr.heap.size := P.out.2.2.2.size
            clear j0 j1 j2 j3
            by_cases hml : m < cn
            · have m1 : (m : Int) < (cn : Int) := by omega
              have HS64 := Lib.hid (HLN.out (2 + m) (by omega))
              have cs : wr.cell? ⟨g, 2 + m, none⟩ = some (.string ⟨(D.rd (2 + m)).toArray⟩) := R3.out.cell (by omega)
              have ec : ((2 + m : Nat) : Int) = 2 + (m : Int) := by omega
              have HEC := Lib.hid ec
              clear ec
              have HSR : Hid ((D.rd (2 + m)).length = 64) := HS64
              have hsz : (⟨(D.rd (2 + m)).toArray⟩ : ByteArray).size = 64 := by simp [ByteArray.size, HSR.out]
              have HE := Lib.hid (ext_16 (D.rd (2 + m)) 18)
              by_cases hp : ∃ t : List UInt8, 1 ≤ t.length ∧ t.length ≤ 46 ∧ D.rd (2 + m) = sectP (2 + m) t
              · obtain ⟨t, t1, t2, t3⟩ := hp
                have HT3 := Lib.hid t3
                have hat : Lib.atoiAll ((D.rd (2 + m)).drop 16 |>.take 2) = .ok (t.length : Int) := by
                  rw [t3, sect_digits]; exact atoi_decs (by omega) (by omega) (by omega)
                have HAT := Lib.hid hat
                have HEX : Hid ((⟨(D.rd (2 + m)).toArray⟩ : ByteArray).extract 18 (18 + t.length) = ⟨t.toArray⟩) := Lib.hid (by
                  apply ByteArray.ext
                  apply Array.toList_inj.1
                  rw [Lib.extract_data]
                  show ((D.rd (2 + m)).drop 18).take (18 + t.length - 18) = t
                  rw [show 18 + t.length - 18 = t.length by omega, t3]
                  exact sect_text _)
                have hq : (sectP (2 + m) t == D.rd (2 + m)) = true := by rw [← t3]; simp
                have HPN := Lib.hid (fun w' => P.out.next (w' := w') t1 t2 t3)
                have HPL := Lib.hid P.out.len
                have n0 : (1 : Int) ≤ (t.length : Int) := by omega
                have n1 : (t.length : Int) ≤ 46 := by omega
                have n2 : ((18 : Int) + (t.length : Int)).toNat = 18 + t.length := by omega
                clear hat t3
                generalize D.rd (2 + m) = s at *
                go_wp2_with fail
                refine (atoi_yes _ wr (by simp [ByteArray.size]; omega) (t.length : Int) (by rw [HE.out]; exact HAT.out)).mono ?_
                rintro e w5 ⟨rfl, hb⟩
                have HB5 := Lib.hid (P.out.2.2.2.trans (hb.mono hzc))
                have B5 := Lib.hid (bf_below P.out.2.2.1 hb)
                clear hb
                have htsz : (⟨t.toArray⟩ : ByteArray).size = t.length := by simp [ByteArray.size]
                have ex := HEX.out
                go_wp2_with fail
                rw [← HEC.out]
                refine (sector_any w5 (2 + m) t (by omega) t2 (HL.out.keep (R2.out.bel.trans (HB5.out.mono R2.out.bel.size)))).mono ?_
                rintro e w6 ⟨rfl, hb⟩
                have hz5 : wc.heap.size ≤ w5.heap.size := HB5.out.size
                have HB6 := Lib.hid (HB5.out.trans (hb.mono hz5))
                have B6 := Lib.hid (bf_below B5.out hb)
                clear hb
                generalize sectP (2 + m) t = sp at *
                go_wp2_with fail
                refine (write_str wc.heap.size wc.heap.size (Lib.byteCells ts.flatten) ⟨t.toArray⟩ w6 B6.out (by rw [Lib.byteCells_length]; have := HPL.out; omega) HB6.out.size).mono ?_
                rintro e w7 ⟨rfl, g1, g2⟩
                have P7 := Lib.hid (HPN.out w7 (by rw [← byte_str t]; exact Or.inr g1) (HB6.out.trans g2))
                clear g1 g2 HPN
                go_wp2_with fail
                go_roundw
                case rel => exact ⟨m + 1, ts ++ [t], by omega, by go_num, P7⟩
                case measure => simp [intOf]; omega
              · have HNO := Lib.hid (no_piece hml HTOP.out hp)
                have HP := Lib.hid (fun (n : Nat) (h1 : 1 ≤ n) (h2 : n ≤ 46) (e : sectP (2 + m) ((D.rd (2 + m)).drop 18 |>.take n) = D.rd (2 + m)) => hp ⟨((D.rd (2 + m)).drop 18).take n, by rw [List.length_take, List.length_drop, HSR.out]; omega, by rw [List.length_take]; omega, e.symm⟩)
                clear hp
                generalize D.rd (2 + m) = s at *
                have HAS := Lib.hid (atoi_some ((⟨s.toArray⟩ : ByteArray).extract 16 18) wr (by simp [ByteArray.size]; omega) L3.out)
                go_wp2_with fail
                refine HAS.out.mono ?_
                rintro e w5 ⟨v, ev, rfl, _, hb⟩
                have HB5 := Lib.hid (P.out.2.2.2.trans (hb.mono hzc))
                clear hb HAS
                by_cases v1 : v < 1
                · go_wp2_with fail
                  go_ret3
                  exact Or.inl ⟨HNO.out, rfl, R2.out.bel.trans (HB5.out.mono R2.out.bel.size)⟩
                by_cases v2 : 46 < v
                · go_wp2_with fail
                  go_ret3
                  exact Or.inl ⟨HNO.out, rfl, R2.out.bel.trans (HB5.out.mono R2.out.bel.size)⟩
                obtain ⟨n, rfl⟩ : ∃ n : Nat, v = n := ⟨v.toNat, by omega⟩
                have n0 : (1 : Int) ≤ (n : Int) := by omega
                have n1 : (n : Int) ≤ 46 := by omega
                have n2 : ((18 : Int) + (n : Int)).toNat = 18 + n := by omega
                have hq : (sectP (2 + m) ((s.drop 18).take n) == s) = false := by
                  rw [beq_eq_false_iff_ne]
                  exact HP.out n (by omega) (by omega)
                have ex : (⟨s.toArray⟩ : ByteArray).extract 18 (18 + n) = ⟨((s.drop 18).take n).toArray⟩ := by
                  apply ByteArray.ext
                  apply Array.toList_inj.1
                  rw [Lib.extract_data]
                  show (s.drop 18).take (18 + n - 18) = (s.drop 18).take n
                  rw [show 18 + n - 18 = n by omega]
                have htl : ((s.drop 18).take n).length ≤ 46 := by rw [List.length_take]; omega
                clear v1 v2
                generalize (s.drop 18).take n = t at *
                go_wp2_with fail
                rw [← HEC.out]
                refine (sector_any w5 (2 + m) t (by omega) htl (HL.out.keep (R2.out.bel.trans (HB5.out.mono R2.out.bel.size)))).mono ?_
                rintro e w6 ⟨rfl, hb⟩
                have HB6 := Lib.hid (HB5.out.trans (hb.mono HB5.out.size))
                clear hb
                generalize sectP (2 + m) t = sp at *
                go_wp2_with fail
                go_ret3
                exact Or.inl ⟨HNO.out, rfl, R2.out.bel.trans (HB6.out.mono R2.out.bel.size)⟩
            · obtain rfl : m = cn := by omega
              have HPL := Lib.hid P.out.len
              have HPB := Lib.hid P.out.2.2.1
              have HPW := Lib.hid P.out.2.2.2
              have HSP := Lib.hid (fun c recs (o : Opn k (view D) c recs) => same_pieces P.out o (HTOP.out c recs o))
              have HYP := Lib.hid (fun recs hf ho => yes_pieces (recs := recs) P.out HTOP2.out hf ho)
              generalize ts.flatten = fl at *
              go_wp2_with fail
              refine (Tryz.Builder_String_any_f wc.heap.size wc.heap.size fl wr HPB.out hzc).mono ?_
              rintro e w5 ⟨rfl, _, hb⟩
              have HB5 := Lib.hid (HPW.out.trans hb)
              clear hb
              have HPA := Lib.hid (parse_any w5 fl (by have := HPL.out; omega) (HL.out.keep (R2.out.bel.trans (HB5.out.mono R2.out.bel.size))))
              go_wp2_with fail
              refine HPA.out.mono ?_
              rintro e w6 hp
              rcases hp with ⟨rv, recs, rfl, hte, hok, hro, hb⟩ | ⟨rfl, hno, hb⟩
              · have HOP := Lib.hid (HYP.out recs hte hok)
                have hrl : recs.length ≤ 100000 := by
                  have := HPL.out
                  rw [hte] at this
                  have := textP_two recs
                  omega
                have HB6 := Lib.hid (HB5.out.trans (hb.mono HB5.out.size))
                have R6 := Lib.hid (R2.out.keep HB6.out)
                have HRO := Lib.hid hro
                clear hte hok hro hb HPA HYP HSP
                have hz5 : wc.heap.size ≤ w5.heap.size := HB5.out.size
                obtain ⟨hjl6, _, _, _, j36, jf6⟩ := R6.out.j
                have f36 := jf6 3
                clear jf6
                obtain ⟨ra, rc, rfl⟩ : ∃ ra rc, rv = .slice ra recs.length rc := by
                  rcases HRO.out.2 with ⟨rfl, e⟩ | ⟨q, cap, cur, rfl, _⟩
                  · exact ⟨none, 0, by rw [e]⟩
                  · exact ⟨_, _, rfl⟩
                have M0 := Lib.hid (ML.init HD.out HL.out hm R6.out HRO.out (Nat.le_trans R2.out.bel.size hz5))
                go_wp2_with fail
                generalize w6.setCell ⟨jb, 3, none⟩ (.slice ra recs.length rc) = w7 at *
                clear R6 hjl6 j36 f36 P HPW HPB HPL R3 L3 HB5 HB6 HRO
                clear hzc hml hmc wr
                go_loopw [15, 16, 17, 119] (fun _ _ _ i wr => ∃ (p : Nat) (E : PD) (F' : Nat → Prop), p ≤ 2 ∧ i = .int .i64 p ∧ Hid (ML D F d k g c jb m (rest (view D) m p) (.slice ra recs.length rc) recs E F' wo wr)) (fun _ _ _ i _ => 2 - (intOf i).toNat)
                case atStart => exact ⟨0, D, F, by omega, rfl, M0⟩
                case round =>
                  clear M0
                  obtain ⟨p, E, F', hp2, rfl, M⟩ := hrel
                  have p0 : (0 : Int) ≤ (p : Int) := Int.natCast_nonneg _
                  have j0 : wr.cell? ⟨jb, 0, none⟩ = some (.pointer (some ⟨d, 0, none⟩)) := cell_at M.out.jour rfl
                  have j2 : wr.cell? ⟨jb, 2, none⟩ = some (.int .i64 m) := cell_at M.out.jour rfl
                  have j3 : wr.cell? ⟨jb, 3, none⟩ = some (.slice ra recs.length rc) := cell_at M.out.jour rfl
                  have hjr := heap_lt M.out.jour
                  by_cases hlt2 : p < 2
                  · have p1 : (p : Int) < 2 := by omega
                    have HH := Lib.hid (head_any' wr p m (by omega) (by omega) M.out.laid)
                    go_wp2_with fail
                    refine HH.out.mono ?_
                    rintro e w8 ⟨rfl, hb⟩
                    have M8 := Lib.hid (M.out.below hb)
                    clear hb HH j0 j2 j3 hjr
                    have hmix : Tryz.prog.follows Departure.mixedOrders = true := by decide
                    have cp := fun dd os => cell_regrown (M8.out.cell (show p < k by omega)) dd os
                    have cj := fun dd os => cell_regrown (show w8.cell? ⟨jb, 2, none⟩ = some (.int .i64 m) from cell_at M8.out.jour rfl) dd os
                    have cp' := M8.out.cell (show p < k by omega)
                    have cj' : w8.cell? ⟨jb, 2, none⟩ = some (.int .i64 m) := cell_at M8.out.jour rfl
                    have pk1 : (p : Int) < (k : Int) := by omega
                    by_cases ha : D.rd p = headP p m
                    · have b1 : (D.rd p == headP p m) = true := by simpa using ha
                      have MS := Lib.hid (M8.out.skip hlt2 (Or.inl ha))
                      clear ha
                      go_wp2_with fail
                      refine wp_region_quiet_below (by assumption) (by kernel_rfl) ?_
                      repeat (first | go_big_quiet_skip | quiet_step ((go_at_call 40; exact Calls.regrown_of (zero_any _))))
                      refine wpQuiet_nil ?_
                      intro w9 hw9
                      obtain ⟨pp, rfl⟩ := hw9
                      have M9 := Lib.hid (MS.out.below (below_regrown w8 pp.d pp.os))
                      generalize Sort.grow (redrawn w8 pp.d) pp.os = w9 at *
                      clear cp cj cp' cj' MS M8
                      go_wp2_with fail
                      go_roundw
                      case rel => exact ⟨p + 1, E, F', by omega, by go_num, M9⟩
                      case measure => simp [intOf]; omega
                    have b1 : (D.rd p == headP p m) = false := by simpa using ha
                    by_cases hm0 : m = 0
                    · have b2 : ((m : Int) == 0) = true := by rw [beq_iff_eq]; omega
                      by_cases hz0 : D.rd p = zeroT
                      · have b3 : (D.rd p == zeroT) = true := by simpa using hz0
                        have MS := Lib.hid (M8.out.skip hlt2 (Or.inr ⟨hm0, hz0⟩))
                        have HM0 := Lib.hid hm0
                        clear ha hm0 hz0
                        go_wp2_with fail
                        refine wp_region_quiet_below (by assumption) (by kernel_rfl) ?_
                        repeat (first | go_big_quiet_skip | quiet_step ((go_at_call 40; exact Calls.regrown_of (zero_any _))))
                        refine wpQuiet_nil ?_
                        intro w9 hw9
                        obtain ⟨pp, rfl⟩ := hw9
                        have M9 := Lib.hid (MS.out.below (below_regrown w8 pp.d pp.os))
                        generalize Sort.grow (redrawn w8 pp.d) pp.os = w9 at *
                        clear cp cj cp' cj' MS M8
                        go_wp2_with fail
                        go_roundw
                        case rel => exact ⟨p + 1, E, F', by omega, by go_num, M9⟩
                        case measure => simp [intOf]; omega
                      · have b3 : (D.rd p == zeroT) = false := by simpa using hz0
                        have MB := Lib.hid (M8.out.bad hlt2 (fun x => by rcases x with x | ⟨_, x⟩; exact ha x; exact hz0 x))
                        rw [if_neg (by omega), List.nil_append] at MB
                        have HM0 := Lib.hid hm0
                        clear ha hm0 hz0
                        go_wp2_with fail
                        refine wp_region_quiet_below (by assumption) (by kernel_rfl) ?_
                        repeat (first | go_big_quiet_skip | quiet_step ((go_at_call 40; exact Calls.regrown_of (zero_any _))))
                        refine wpQuiet_nil ?_
                        intro w9 hw9
                        obtain ⟨pp, rfl⟩ := hw9
                        have M9 := Lib.hid (MB.out.below (below_regrown w8 pp.d pp.os))
                        generalize Sort.grow (redrawn w8 pp.d) pp.os = w9 at *
                        clear cp cj cp' cj' MB M8
                        go_wp2_with fail
                        refine (zero_any w9).mono ?_
                        rintro e wa ⟨rfl, hb⟩
                        have MA := Lib.hid ((M9.out.below hb).below (Gr.one wa (.cells #[.string ⟨zeroT.toArray⟩] 9)).below)
                        have hFa := Lib.hid (M9.out.dat.below hb).lt
                        clear hb M9
                        have HJ := Lib.hid (jwrite_any (wa.alloc (.cells #[.string ⟨zeroT.toArray⟩] 9)) F' jb d k p E _ (.slice (some ⟨wa.heap.size, 0, none⟩) 1 1) [zeroT] MA.out.dat MA.out.jour rfl MA.out.nj (sr_one zeroT hFa.out) (by simp [zeroT_len]) (by simp; omega) (Nat.le_trans MA.out.pend (by decide)))
                        have erow : rowAt p [zeroT] = [(p, zeroT)] := rfl
                        rw [erow] at HJ
                        clear erow
                        rcases writes_cases [(p, zeroT)] E with hw | hw
                        · have HW := Lib.hid hw
                          rw [hw] at HJ
                          clear hw
                          go_wp2_with fail
                          refine HJ.out.mono ?_
                          rintro e wb ⟨rfl, F2, g1, g2⟩
                          have MC := Lib.hid (MA.out.seg HF6.out HL.out.size HW.out g1 g2)
                          clear g1 g2 HJ
                          have c2' : wb.cell? ⟨jb, 2, none⟩ = some (.int .i64 m) := cell_at MC.out.jour rfl
                          rw [show (m : Int) = 0 by have := HM0.out; omega] at c2'
                          have hjb := heap_lt MC.out.jour
                          go_wp2_with fail
                          go_roundw
                          case rel => exact ⟨p + 1, _, F2, by omega, by go_num, MC⟩
                          case measure => simp [intOf]; omega
                        · have HW := Lib.hid hw
                          rw [hw] at HJ
                          clear hw
                          go_wp2_with fail
                          refine HJ.out.mono ?_
                          rintro e wb ⟨rfl, F2, g1, g2⟩
                          have HX := Lib.hid (MA.out.stop HOP.out HW.out g1 g2)
                          clear g1 g2 HJ
                          go_wp2_with fail
                          go_ret3
                          exact HX.out
                    · have b2 : ((m : Int) == 0) = false := by rw [beq_eq_false_iff_ne]; omega
                      have MB := Lib.hid (M8.out.bad hlt2 (fun x => by rcases x with x | ⟨x, _⟩; exact ha x; exact hm0 x))
                      rw [if_pos (by omega)] at MB
                      clear ha
                      go_wp2_with fail
                      refine wp_region_quiet_below (by assumption) (by kernel_rfl) ?_
                      repeat (first | go_big_quiet_skip | quiet_step ((go_at_call 40; exact Calls.regrown_of (zero_any _))))
                      refine wpQuiet_nil ?_
                      intro w9 hw9
                      obtain ⟨pp, rfl⟩ := hw9
                      have M9 := Lib.hid (MB.out.below (below_regrown w8 pp.d pp.os))
                      generalize Sort.grow (redrawn w8 pp.d) pp.os = w9 at *
                      clear cp cj cp' cj' MB M8
                      go_wp2_with fail
                      refine (zero_any w9).mono ?_
                      rintro e wa ⟨rfl, hb⟩
                      have MA := Lib.hid ((M9.out.below hb).below (Gr.one wa (.cells #[.string ⟨zeroT.toArray⟩] 9)).below)
                      have hFa := Lib.hid (M9.out.dat.below hb).lt
                      clear hb M9
                      have HJ := Lib.hid (jwrite_any (wa.alloc (.cells #[.string ⟨zeroT.toArray⟩] 9)) F' jb d k p E _ (.slice (some ⟨wa.heap.size, 0, none⟩) 1 1) [zeroT] MA.out.dat MA.out.jour rfl MA.out.nj (sr_one zeroT hFa.out) (by simp [zeroT_len]) (by simp; omega) (Nat.le_trans MA.out.pend (by decide)))
                      have erow : rowAt p [zeroT] = [(p, zeroT)] := rfl
                      rw [erow] at HJ
                      clear erow
                      rcases writes_cases [(p, zeroT)] E with hw | hw
                      · have HW := Lib.hid hw
                        rw [hw] at HJ
                        clear hw
                        go_wp2_with fail
                        refine HJ.out.mono ?_
                        rintro e wb ⟨rfl, F2, g1, g2⟩
                        have MC := Lib.hid (MA.out.seg HF6.out HL.out.size HW.out g1 g2)
                        clear g1 g2 HJ
                        have c2' : wb.cell? ⟨jb, 2, none⟩ = some (.int .i64 m) := cell_at MC.out.jour rfl
                        have hjb := heap_lt MC.out.jour
                        have hm0 : (0 : Int) < (m : Int) := by omega
                        have MD := Lib.hid (MC.out.below (Gr.one wb (.cells #[.string ⟨(headP p m).toArray⟩] 9)).below)
                        have HJ2 := Lib.hid (jwrite_any (wb.alloc (.cells #[.string ⟨(headP p m).toArray⟩] 9)) F2 jb d k p (E.writes [(p, zeroT)]).1 _ (.slice (some ⟨wb.heap.size, 0, none⟩) 1 1) [headP p m] MD.out.dat MD.out.jour rfl MD.out.nj (sr_one (headP p m) MC.out.dat.lt) (by simp [head_len]) (by simp; omega) (Nat.le_trans MD.out.pend (by decide)))
                        have erow : rowAt p [headP p m] = [(p, headP p m)] := rfl
                        rw [erow] at HJ2
                        clear erow
                        rcases writes_cases [(p, headP p m)] (E.writes [(p, zeroT)]).1 with hw2 | hw2
                        · have HW2 := Lib.hid hw2
                          rw [hw2] at HJ2
                          clear hw2
                          go_wp2_with fail
                          refine HJ2.out.mono ?_
                          rintro e we ⟨rfl, F3, g1, g2⟩
                          have ME := Lib.hid (MD.out.seg HF6.out HL.out.size HW2.out g1 g2)
                          clear g1 g2 HJ2
                          go_wp2_with fail
                          go_roundw
                          case rel => exact ⟨p + 1, _, F3, by omega, by go_num, ME⟩
                          case measure => simp [intOf]; omega
                        · have HW2 := Lib.hid hw2
                          rw [hw2] at HJ2
                          clear hw2
                          go_wp2_with fail
                          refine HJ2.out.mono ?_
                          rintro e we ⟨rfl, F3, g1, g2⟩
                          have HX := Lib.hid (MD.out.stop HOP.out HW2.out g1 g2)
                          clear g1 g2 HJ2
                          go_wp2_with fail
                          go_ret3
                          exact HX.out
                      · have HW := Lib.hid hw
                        rw [hw] at HJ
                        clear hw
                        go_wp2_with fail
                        refine HJ.out.mono ?_
                        rintro e wb ⟨rfl, F2, g1, g2⟩
                        have HX := Lib.hid (MA.out.stop HOP.out HW.out g1 g2)
                        clear g1 g2 HJ
                        go_wp2_with fail
                        go_ret3
                        exact HX.out
                  · obtain rfl : p = 2 := by omega
                    have HCL := Lib.hid (clone_any wr (fun _ => False) (.slice ra recs.length rc) recs (SR.own M.out.rrow (fun _ _ => id)) (by omega))
                    have HJW := Lib.hid R2.out.new
                    go_wp2_with fail
                    refine HCL.out.mono ?_
                    rintro e w9 ⟨gv, rfl, g1, g2⟩
                    have HG := Lib.hid (M.out.done HOP.out hcn hrl HJW.out g1 g2)
                    clear g1 g2 HCL
                    go_wp2_with fail
                    go_ret3
                    exact HG.out
              · have HNO : Hid (¬ ∃ c recs, Opn k (view D) c recs) := Lib.hid (fun ⟨c, recs, o⟩ => hno ⟨recs, o.ok, HSP.out c recs o⟩)
                have HB6 := Lib.hid (HB5.out.trans (hb.mono HB5.out.size))
                have R6 := Lib.hid (R2.out.keep HB6.out)
                clear hno hb HPA HYP HSP
                obtain ⟨hjl6, _, _, _, j36, jf6⟩ := R6.out.j
                have f36 := jf6 3
                clear jf6
                go_wp2_with fail
                go_ret3
                exact Or.inl ⟨HNO.out, rfl, (R6.out.setR (.slice none 0 0)).bel⟩
end Go.Proofs.YtihoomlaggihlaaGreatDoor
