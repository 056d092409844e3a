/- The contracts of the reference's Open, and of its Append whatever it is asked for. Under no condition but sizes. -/
/- The contract of the reference's Open on a disk that is on; of its Append, whatever it is asked for. Under no condition but sizes. -/
import Derived.Test.YtihoomlaggihlaaGreatDoorRL
import Derived.Test.YtihoomlaggihlaaGreatDoorRE
namespace Go.Proofs.YtihoomlaggihlaaGreatDoor
open Go.RowKit

set_option maxHeartbeats 2000000 in
set_option maxRecDepth 100000 in
theorem ropen_nil (w : World) : Calls Tryz.prog 17 #[.pointer none] w fun e w' => e = .returned (.tuple #[.pointer none, .slice none 0 0, .int .i64 1]) ∧ w = w' := by
  go_enter Tryz.func17, Tryz.ntmps17
  go_wp2_with fail
  go_ret3
  exact ⟨rfl, rfl⟩
set_option maxHeartbeats 4000000 in
set_option maxRecDepth 100000 in
theorem ropen_off (w : World) (F : Nat → Prop) (d n : Nat) (D : PD) (h : RAt w F d n D) (ho : D.off = true) :
    Calls Tryz.prog 17 #[.pointer (some ⟨d, 0, none⟩)] w fun e w' => e = .returned (.tuple #[.pointer none, .slice none 0 0, .int .i64 21]) ∧ w = w' := by
  have HR := rread_off w F d n D 0 h ho
  rw [show ((0 : Nat) : Int) = 0 from rfl] at HR
  replace HR := Lib.hid HR
  clear h ho
  go_enter Tryz.func17, Tryz.ntmps17
  go_wp2_with fail
  refine HR.out.mono ?_
  rintro e w1 ⟨rfl, rfl⟩
  go_wp2_with fail
  refine wp_loop_rounds 1 ?_
  rw [rounds_succ]
  go_wp2_with fail
  go_ret3
  exact ⟨rfl, rfl⟩
theorem sync_ok (D : PD) (h : D.sync.2 = 0) : D.sync.1.ss = settleS D.ss D.pend ∧ D.sync.1.off = false ∧ D.sync.1.pend = [] := by
  unfold PD.sync at *
  split at h
  · cases h
  · rename_i h1
    rw [if_neg h1]
    split at h
    · rename_i h2
      rw [if_pos h2]
      obtain ⟨a, b, c⟩ := count_off D h2
      exact ⟨by rw [b, c], by simpa [a] using h1, rfl⟩
    · rename_i h2
      exact absurd h h2
theorem write_ok (D : PD) (i : Nat) (t : List UInt8) (h : (D.write i t).2 = 0) : (D.write i t).1.ss = D.ss ∧ (D.write i t).1.pend = D.pend ++ [(i, t)] := by
  unfold PD.write at *
  split at h
  · cases h
  · rename_i h1
    rw [if_neg h1]
    obtain ⟨a, b, c⟩ := count_off _ h
    exact ⟨c, b⟩
theorem writes_ok : ∀ (s : List (Nat × List UInt8)) (D : PD), (D.writes s).2 = 0 → (D.writes s).1.ss = settleS D.ss (D.pend ++ s) ∧ (D.writes s).1.off = false ∧ (D.writes s).1.pend = []
  | [], D, h => by
    rw [List.append_nil]
    exact sync_ok D h
  | q :: s, D, h => by
    rw [PD.writes] at h ⊢
    by_cases h1 : (D.write q.1 q.2).2 = 0
    · rw [if_pos h1] at h ⊢
      obtain ⟨a, b⟩ := write_ok D q.1 q.2 h1
      have i := writes_ok s _ h
      rw [a, b, List.append_assoc] at i
      exact i
    · rw [if_neg h1] at h
      exact absurd h h1
/-- what was written elsewhere is not read here -/
theorem writes_rd {D : PD} {p i : Nat} {t : List UInt8} (h : (D.writes [(p, t)]).2 = 0) (hi : p ≠ i) : (D.writes [(p, t)]).1.rd i = D.rd i := by
  obtain ⟨a, _, c⟩ := writes_ok _ D h
  unfold PD.rd
  rw [a, c, settle_nil, settle_app]
  exact settle_far (fun q hq => by rw [List.mem_singleton.1 hq]; exact hi)
/-- mending, so far -/
structure RML (D : PD) (F : Nat → Prop) (d n jb c p : Nat) (R : List (List (Nat × List UInt8))) (rv : Value) (recs : List (List UInt8)) (E : PD) (F' : Nat → Prop) (wo w : World) : Prop where
  dat : RAt w F' d n E
  stp : Stp F wo F' w
  todo : D.runs (mend (view D) c) = E.runs R
  pend : E.pend.length ≤ 1000
  on : E.off = false
  rdo : ∀ i, p ≤ i → E.rd i = D.rd i
  jour : w.heap[jb]? = some (.cells #[.pointer (some ⟨d, 0, none⟩), .int .i64 n, .int .i64 c, rv, .bool false] 81 (0, 0))
  nj : ¬ F' jb
  rrow : w.ownsRow wo.heap.size 9 1 rv recs.length (strs recs)
  nr : ∀ k, rv.ownBlock = some k → ¬ F' k
theorem RML.below {D : PD} {F : Nat → Prop} {d n jb c p : Nat} {R : List (List (Nat × List UInt8))} {rv : Value} {recs : List (List UInt8)} {E : PD} {F' : Nat → Prop} {wo w w' : World} (h : RML D F d n jb c p R rv recs E F' wo w) (hb : Below w.heap.size w w') : RML D F d n jb c p R rv recs E F' wo w' :=
  ⟨h.dat.below hb, h.stp.trans (Stp.below hb), h.todo, h.pend, h.on, h.rdo, (hb.block _ (heap_lt h.jour)).trans h.jour, h.nj, own_below h.rrow hb, h.nr⟩
theorem RML.skip {D : PD} {F : Nat → Prop} {d n jb c p : Nat} {rv : Value} {recs : List (List UInt8)} {E : PD} {F' : Nat → Prop} {wo w : World} (h : RML D F d n jb c p (rest (view D) c p) rv recs E F' wo w) (hp : p < 2) (hk : okHead p (D.rd p) c) : RML D F d n jb c (p + 1) (rest (view D) c (p + 1)) rv recs E F' wo w := by
  refine { h with todo := ?_, rdo := fun i hi => h.rdo i (by omega) }
  rw [h.todo, rest_p _ _ _ hp, mendAt_ok (S := view D) hk, List.nil_append]
theorem RML.bad {D : PD} {F : Nat → Prop} {d n jb c p : Nat} {rv : Value} {recs : List (List UInt8)} {E : PD} {F' : Nat → Prop} {wo w : World} (h : RML D F d n jb c p (rest (view D) c p) rv recs E F' wo w) (hp : p < 2) (hk : ¬ okHead p (D.rd p) c) : RML D F d n jb c (p + 1) ([(p, zeroT)] :: ((if 0 < c then [[(p, headP p c)]] else []) ++ rest (view D) c (p + 1))) rv recs E F' wo w := by
  refine { h with todo := ?_, rdo := fun i hi => h.rdo i (by omega) }
  rw [h.todo, rest_p _ _ _ hp]
  unfold mendAt
  rw [if_neg (show ¬ okHead p ((view D).getD p []) c from hk)]
  rfl
theorem RML.seg {D : PD} {F : Nat → Prop} {d n jb c p : Nat} {t : List UInt8} {R : List (List (Nat × List UInt8))} {rv : Value} {recs : List (List UInt8)} {E : PD} {F' F'' : Nat → Prop} {wo w w' : World} (h : RML D F d n jb c (p + 1) ([(p, t)] :: R) rv recs E F' wo w) (h0 : (E.writes [(p, t)]).2 = 0) (hd : RAt w' F'' d n (E.writes [(p, t)]).1) (hs : Stp F' w F'' w') : RML D F d n jb c (p + 1) R rv recs (E.writes [(p, t)]).1 F'' wo w' := by
  have nb : ∀ k, k < w.heap.size → ¬ F' k → ¬ F'' k := fun k hk hn hx => by
    rcases hs.sub k hx with y | y
    · exact hn y
    · omega
  obtain ⟨_, w2, w3⟩ := writes_ok _ E h0
  refine ⟨hd, h.stp.trans hs, ?_, by rw [w3]; simp, w2, fun i hi => (writes_rd h0 (by omega)).trans (h.rdo i hi), hs.out.heap h.jour h.nj, nb _ (heap_lt h.jour) h.nj, hs.out.own h.rrow h.nr, fun k hk => nb k (h.rrow.lt k hk).2 (h.nr k hk)⟩
  rw [h.todo, PD.runs, if_pos h0]
/-- how Open ends -/
def ROEnd (F : Nat → Prop) (d n : Nat) (D : PD) (w : World) (e : Ending) (w' : World) : Prop :=
  ((¬ ∃ c recs, Opn n (view D) c recs) ∧ e = .returned (.tuple #[.pointer none, .slice none 0 0, .int .i64 20]) ∧ Below w.heap.size w w') ∨
  (∃ c recs, Opn n (view D) c recs ∧ (D.runs (mend (view D) c)).2 = 21 ∧ e = .returned (.tuple #[.pointer none, .slice none 0 0, .int .i64 21]) ∧ ∃ F', RAt w' F' d n (D.runs (mend (view D) c)).1 ∧ Stp F w F' w') ∨
  (∃ c recs, Opn n (view D) c recs ∧ (D.runs (mend (view D) c)).2 = 0 ∧ ∃ jb gv F' G, e = .returned (.tuple #[.pointer (some ⟨jb, 0, none⟩), gv, .int .i64 0]) ∧ RAt w' F' d n (D.runs (mend (view D) c)).1 ∧ Stp F w F' w' ∧
    RJ w' G jb d n c recs false ∧ (∀ k, G k → w.heap.size ≤ k) ∧ (∀ k, F' k → ¬ G k) ∧ w'.ownsRow w.heap.size 9 1 gv recs.length (strs recs) ∧ ∀ k, gv.ownBlock = some k → ¬ F' k ∧ ¬ G k)
theorem RML.stop {D : PD} {F : Nat → Prop} {d n jb c p q : Nat} {t : List UInt8} {R : List (List (Nat × List UInt8))} {rv : Value} {recs : List (List UInt8)} {E : PD} {F' F'' : Nat → Prop} {wo w w' : World} (h : RML D F d n jb c q ([(p, t)] :: R) rv recs E F' wo w) (ho : Opn n (view D) c recs) (h0 : (E.writes [(p, t)]).2 = 21) (hd : RAt w' F'' d n (E.writes [(p, t)]).1) (hs : Stp F' w F'' w') : ROEnd F d n D wo (.returned (.tuple #[.pointer none, .slice none 0 0, .int .i64 21])) w' := by
  have e : D.runs (mend (view D) c) = E.writes [(p, t)] := by rw [h.todo, PD.runs, if_neg (by rw [h0]; decide)]
  exact Or.inr (Or.inl ⟨c, recs, ho, by rw [e]; exact h0, rfl, F'', by rw [e]; exact hd, h.stp.trans hs⟩)
theorem RML.init {D : PD} {F : Nat → Prop} {d n c : Nat} {rv : Value} {recs : List (List UInt8)} {wo w : World} (h : RAt wo F d n D) (hon : D.off = false) (hm : D.pend.length ≤ 1000) (hb : Below wo.heap.size wo w) (ho : w.ownsRow wo.heap.size 9 1 rv recs.length (strs recs)) : RML D F d n w.heap.size c 0 (rest (view D) c 0) rv recs D F wo (w.alloc (.cells #[.pointer (some ⟨d, 0, none⟩), .int .i64 n, .int .i64 c, rv, .bool false] 81)) := by
  have A := (Gr.one w (.cells #[.pointer (some ⟨d, 0, none⟩), .int .i64 n, .int .i64 c, rv, .bool false] 81)).below
  have hz := hb.size
  exact ⟨h.below (hb.trans (A.mono hz)), Stp.below (hb.trans (A.mono hz)), rfl, hm, hon, fun _ _ => rfl, heap_alloc_new w _, fun e => by have := h.lt _ e; omega, own_below ho A, fun k hk e => by have := (ho.lt k hk).1; have := h.lt k e; omega⟩
theorem RML.done {D : PD} {F : Nat → Prop} {d n jb c p : Nat} {rv gv : Value} {recs : List (List UInt8)} {E : PD} {F' : Nat → Prop} {wo w w' : World} (h : RML D F d n jb c p (rest (view D) c 2) rv recs E F' wo w) (ho : Opn n (view D) c recs) (hc : c + 2 ≤ n) (hrl : recs.length ≤ 100000) (hjw : wo.heap.size ≤ jb) (hg : w'.ownsRow w.heap.size 9 1 gv recs.length (strs recs)) (hb : Below w.heap.size w w') :
    ROEnd F d n D wo (.returned (.tuple #[.pointer (some ⟨jb, 0, none⟩), gv, .int .i64 0])) w' := by
  have e : D.runs (mend (view D) c) = (E, 0) := by rw [h.todo]; rfl
  refine Or.inr (Or.inr ⟨c, recs, ho, by rw [e], jb, gv, F', fun q => q = jb ∨ rv.ownBlock = some q, rfl, by rw [e]; exact h.dat.below hb, h.stp.trans (Stp.below hb), ⟨⟨rv, (hb.block _ (heap_lt h.jour)).trans h.jour, own_low (own_below h.rrow hb) (Nat.zero_le _), fun q hq => Or.inr hq⟩, Or.inl rfl, ?_, hc, hrl⟩, ?_, ?_, own_low hg h.stp.out.size, fun q hq => ?_⟩)
  · rintro q (rfl | hq)
    · exact Nat.lt_of_lt_of_le (heap_lt h.jour) hb.size
    · exact Nat.lt_of_lt_of_le (h.rrow.lt q hq).2 hb.size
  · rintro q (rfl | hq)
    · exact hjw
    · exact (h.rrow.lt q hq).1
  · rintro q hF (rfl | hq)
    · exact h.nj hF
    · exact h.nr q hq hF
  · have hq2 := (hg.lt q hq).1
    refine ⟨fun x => by have := h.dat.lt q x; omega, ?_⟩
    rintro (rfl | hr)
    · have := heap_lt h.jour; omega
    · have := (h.rrow.lt q hr).2; omega
/-- the pieces of the first k sectors -/
def prts (D : PD) (k : Nat) : List (List UInt8) := (List.range k).map fun i => pieceP (2 + i) (D.rd (2 + i))
theorem prts_succ (D : PD) (k : Nat) : prts D (k + 1) = prts D k ++ [pieceP (2 + k) (D.rd (2 + k))] := by simp [prts, List.range_succ]
theorem prts_len (D : PD) (k : Nat) : (prts D k).length = k := by simp [prts]
theorem prts_get (D : PD) (k i : Nat) (h : i < (prts D k).length) : (prts D k)[i] = pieceP (2 + i) (D.rd (2 + i)) := by simp [prts]
/-- every sector read so far holds a piece -/
def Full (D : PD) (k : Nat) : Prop := ∀ i, i < k → pieceP (2 + i) (D.rd (2 + i)) ≠ []
theorem prts_bytes {D : PD} {k : Nat} : (prts D k).flatten.length ≤ 46 * k := by
  induction k with
  | zero => simp [prts]
  | succ k ih =>
    rw [prts_succ, List.flatten_append, List.length_append]
    have := ih
    have h2 : (pieceP (2 + k) (D.rd (2 + k))).length ≤ 46 := by
      unfold pieceP
      split
      · rw [List.length_take]; omega
      · simp
    simp
    simp at this
    omega
theorem rd_len {D : PD} {n i : Nat} (hv : Vd n D) (hi : i < n) : (D.rd i).length = 64 := (hv.sec.settle hv.whole.le).at hi
theorem no_part {D : PD} {n m k : Nat} (hk : k < m) (top : max (cnt 0 (D.rd 0) (n - 2)) (cnt 1 (D.rd 1) (n - 2)) = (m : Int)) (h : pieceP (2 + k) (D.rd (2 + k)) = []) : ¬ ∃ c recs, Opn n (view D) c recs := by
  rintro ⟨c, recs, o⟩
  have e : (c : Int) = (m : Int) := o.top.symm.trans top
  obtain ⟨ts, h1, h2, _⟩ := o.body
  obtain ⟨a, b, q⟩ := h2 k (by omega)
  have : pieceP (2 + k) (sectP (2 + k) ts[k]) = ts[k] := piece_of _ a b
  rw [show D.rd (2 + k) = sectP (2 + k) ts[k] from q, this] at h
  rw [h] at a
  simp at a
theorem parts_same {D : PD} {n m : Nat} (top : max (cnt 0 (D.rd 0) (n - 2)) (cnt 1 (D.rd 1) (n - 2)) = (m : Int)) {c : Nat} {recs : List (List UInt8)} (o : Opn n (view D) c recs) : (prts D m).flatten = textP recs := by
  have e : c = m := by have : (c : Int) = (m : Int) := o.top.symm.trans top; omega
  subst e
  obtain ⟨ts, h1, h2, h3⟩ := o.body
  rw [← h3]
  congr 1
  apply List.ext_getElem (by rw [prts_len, h1])
  intro i hi hi'
  obtain ⟨a, b, q⟩ := h2 i hi'
  rw [prts_get, show D.rd (2 + i) = sectP (2 + i) ts[i] from q]
  exact piece_of _ a b
theorem parts_open {D : PD} {n m : Nat} {recs : List (List UInt8)} (hv : Vd n D) (hm : m + 2 ≤ n) (top : max (cnt 0 (D.rd 0) (n - 2)) (cnt 1 (D.rd 1) (n - 2)) = (m : Int)) (hf : Full D m) (ht : (prts D m).flatten = textP recs) (ho : okR recs) : Opn n (view D) m recs := by
  refine ⟨top, ⟨prts D m, prts_len D m, fun i hi => ?_, ht⟩, ho⟩
  rw [prts_len] at hi
  have h64 := rd_len hv (show 2 + i < n by omega)
  have := piece_is h64 (hf i hi)
  rw [prts_get]
  exact this
theorem top_le {D : PD} {n m : Nat} (hn8 : n - 2 < 10 ^ 8) (top : max (cnt 0 (D.rd 0) (n - 2)) (cnt 1 (D.rd 1) (n - 2)) = (m : Int)) : m ≤ n - 2 := by
  rcases Int.le_total (cnt 0 (D.rd 0) (n - 2)) (cnt 1 (D.rd 1) (n - 2)) with e | e
  · exact (cnt_ok (p := 1) (s := D.rd 1) hn8 (by omega)).2
  · exact (cnt_ok (p := 0) (s := D.rd 0) hn8 (by omega)).2
end Go.Proofs.YtihoomlaggihlaaGreatDoor

namespace Go.Proofs.YtihoomlaggihlaaGreatDoor
open Go.RowKit

theorem pl_one {wa wz : World} {F' : Nat → Prop} {p : Nat} (t : List UInt8) (hF : ∀ k, F' k → k < wa.heap.size) (hb : Below (wa.alloc (.cells #[.int .i64 (p : Int)] 3)).heap.size (wa.alloc (.cells #[.int .i64 (p : Int)] 3)) wz) :
    PL (wz.alloc (.cells #[.string ⟨t.toArray⟩] 9)) F' (.slice (some ⟨wa.heap.size, 0, none⟩) 1 1) p 1 ∧ SR (wz.alloc (.cells #[.string ⟨t.toArray⟩] 9)) F' (.slice (some ⟨wz.heap.size, 0, none⟩) 1 1) [t] ∧ Below wa.heap.size wa (wz.alloc (.cells #[.string ⟨t.toArray⟩] 9)) := by
  have A := (Gr.one wa (.cells #[.int .i64 (p : Int)] 3)).below
  have Z := (Gr.one wz (.cells #[.string ⟨t.toArray⟩] 9)).below
  have B := hb.trans (Z.mono hb.size)
  have hs := hb.size
  have hlt : wa.heap.size < (wa.alloc (.cells #[.int .i64 (p : Int)] 3)).heap.size := by simp
  refine ⟨⟨_, 1, rfl, Nat.le_refl _, fun k hk => ?_⟩, sr_one t (fun x hx => by have := hF x hx; omega), A.trans (B.mono A.size)⟩
  obtain rfl : k = 0 := by omega
  exact ⟨_, _, rfl, fun e => by have := hF _ e; omega, (B.cell (p := ⟨wa.heap.size, 0, none⟩) hlt).trans (cell_at (heap_alloc_new wa _) rfl)⟩
theorem rread_all (w : World) (F : Nat → Prop) (d n : Nat) (D : PD) (i : Nat) (h : RAt w F d n D) (ho : D.off = false) (hm : D.pend.length ≤ 100000) :
    Calls Tryz.prog 54 #[.pointer (some ⟨d, 0, none⟩), .int .i64 i] w fun e w' => e = .returned (.tuple #[.string ⟨(if i < n then D.rd i else []).toArray⟩, .int .i64 (if i < n then 0 else 1)]) ∧ w = w' := by
  by_cases hi : i < n
  · rw [if_pos hi, if_pos hi]
    exact rread_yes w F d n D i h ho hi hm
  · rw [if_neg hi, if_neg hi]
    exact rread_no w F d n D i h ho (by omega)
set_option maxHeartbeats 8000000 in
set_option maxRecDepth 100000 in
theorem ropen_few (w : World) (F : Nat → Prop) (d n : Nat) (D : PD) (h : RAt w F d n D) (ho : D.off = false) (hm : D.pend.length ≤ 100000) (hn1 : 1 ≤ n) (hn3 : n < 3) :
    Calls Tryz.prog 17 #[.pointer (some ⟨d, 0, none⟩)] w fun e w' => e = .returned (.tuple #[.pointer none, .slice none 0 0, .int .i64 1]) ∧ w = w' := by
  have HD := Lib.hid h
  have HON := Lib.hid ho
  have hn4 := h.n4
  have HRA := Lib.hid (fun i => rread_all w F d n D i h ho hm)
  clear h ho
  go_enter Tryz.func17, Tryz.ntmps17
  go_wp2_with fail
  have HRF := rread_yes w F d n D 0 HD.out HON.out (by omega) (by omega)
  rw [show ((0 : Nat) : Int) = 0 from rfl] at HRF
  refine HRF.mono ?_
  rintro e w1 ⟨rfl, rfl⟩
  clear HRF
  generalize h0s : D.rd 0 = s0
  clear h0s
  go_wp2_with fail
  go_loop [5, 7] (fun nv ev => ∃ k : Nat, k ≤ n ∧ nv = .int .i64 k ∧ ev = .int .i64 (if k < n then 0 else 1)) (fun nv _ => n - (intOf nv).toNat)
  case atStart => exact ⟨0, by omega, rfl, by rw [if_pos (by omega)]⟩
  case round =>
    obtain ⟨k, hk, rfl, hev⟩ := hrel
    have hk0 : (0 : Int) ≤ (k : Int) := Int.natCast_nonneg _
    by_cases hlt : k < n
    · rw [if_pos hlt] at hev
      subst hev
      have hk1 : (k : Int) + 1 ≤ 4001 := by omega
      go_wp2_with fail
      refine (by have := HRA.out (k + 1); rw [show ((k + 1 : Nat) : Int) = (k : Int) + 1 from by omega] at this; exact this : Calls Tryz.prog 54 #[.pointer (some ⟨d, 0, none⟩), .int .i64 ((k : Int) + 1)] w _).mono ?_
      rintro e w1 ⟨rfl, rfl⟩
      go_wp2_with fail
      go_round
      case rel => exact ⟨k + 1, by omega, by go_num, rfl⟩
      case measure => simp [intOf]; omega
    · rw [if_neg hlt] at hev
      subst hev
      obtain rfl : k = n := by omega
      have hn3i : (k : Int) < 3 := by omega
      go_wp2_with fail
      go_ret3
      exact ⟨rfl, rfl⟩
set_option maxHeartbeats 32000000 in
set_option maxRecDepth 100000 in
theorem ropen_main (w : World) (F : Nat → Prop) (d n : Nat) (D : PD) (h : RAt w F d n D) (ho : D.off = false) (hm : D.pend.length ≤ 1000) (hn3 : 3 ≤ n) :
    Calls Tryz.prog 17 #[.pointer (some ⟨d, 0, none⟩)] w (ROEnd F d n D w) := by
  have HD := Lib.hid h
  have HON := Lib.hid ho
  have hn4 := h.n4
  have HRA := Lib.hid (fun i => rread_all w F d n D i h ho (by omega))
  clear h ho
  go_enter Tryz.func17, Tryz.ntmps17
  go_wp2_with fail
  have HRF := rread_yes w F d n D 0 HD.out HON.out (by omega) (by omega)
  rw [show ((0 : Nat) : Int) = 0 from rfl] at HRF
  refine HRF.mono ?_
  rintro e w1 ⟨rfl, rfl⟩
  clear HRF
  generalize h0s : D.rd 0 = s0
  clear h0s
  go_wp2_with fail
  go_loop [5, 7] (fun nv ev => ∃ k : Nat, k ≤ n ∧ nv = .int .i64 k ∧ ev = .int .i64 (if k < n then 0 else 1)) (fun nv _ => n - (intOf nv).toNat)
  case atStart => exact ⟨0, by omega, rfl, by rw [if_pos (by omega)]⟩
  case round =>
    obtain ⟨k, hk, rfl, hev⟩ := hrel
    have hk0 : (0 : Int) ≤ (k : Int) := Int.natCast_nonneg _
    by_cases hlt : k < n
    · rw [if_pos hlt] at hev
      subst hev
      have hk1 : (k : Int) + 1 ≤ 4001 := by omega
      go_wp2_with fail
      refine (by have := HRA.out (k + 1); rw [show ((k + 1 : Nat) : Int) = (k : Int) + 1 from by omega] at this; exact this : Calls Tryz.prog 54 #[.pointer (some ⟨d, 0, none⟩), .int .i64 ((k : Int) + 1)] w _).mono ?_
      rintro e w1 ⟨rfl, rfl⟩
      go_wp2_with fail
      go_round
      case rel => exact ⟨k + 1, by omega, by go_num, rfl⟩
      case measure => simp [intOf]; omega
    · rw [if_neg hlt] at hev
      subst hev
      obtain rfl : k = n := by omega
      clear hk hlt hk0
      have hn3i : (3 : Int) ≤ (k : Int) := by omega
      have hk0 : (0 : Int) ≤ (k : Int) := Int.natCast_nonneg _
      have HV := Lib.hid HD.out.vd
      have HN8 := Lib.hid (show k - 2 < 10 ^ 8 by omega)
      have HR0 := HRA.out 0
      rw [if_pos (by omega), if_pos (by omega), show ((0 : Nat) : Int) = 0 from rfl] at HR0
      replace HR0 := Lib.hid HR0
      have HR1 := HRA.out 1
      rw [if_pos (by omega), if_pos (by omega), show ((1 : Nat) : Int) = 1 from rfl] at HR1
      replace HR1 := Lib.hid HR1
      have HC0 := Lib.hid (fun W => (by have := rcnt_any W 0 (k - 2) (D.rd 0) (rd_len HV.out (by omega)) (by omega) HN8.out; rw [show ((0 : Nat) : Int) = 0 from rfl, show ((k - 2 : Nat) : Int) = (k : Int) - 2 by omega] at this; exact this : Calls Tryz.prog 55 #[.int .i64 0, .string ⟨(D.rd 0).toArray⟩, .int .i64 ((k : Int) - 2)] W _))
      have HC1 := Lib.hid (fun W => (by have := rcnt_any W 1 (k - 2) (D.rd 1) (rd_len HV.out (by omega)) (by omega) HN8.out; rw [show ((1 : Nat) : Int) = 1 from rfl, show ((k - 2 : Nat) : Int) = (k : Int) - 2 by omega] at this; exact this : Calls Tryz.prog 55 #[.int .i64 1, .string ⟨(D.rd 1).toArray⟩, .int .i64 ((k : Int) - 2)] W _))
      have HTOP := Lib.hid (show max (cnt 0 (D.rd 0) (k - 2)) (cnt 1 (D.rd 1) (k - 2)) = max (cnt 0 (D.rd 0) (k - 2)) (cnt 1 (D.rd 1) (k - 2)) from rfl)
      have HTL := Lib.hid (fun m => top_le (D := D) (n := k) (m := m) HN8.out)
      have HNP := Lib.hid (fun m j hj => no_part (D := D) (n := k) (m := m) (k := j) hj)
      have HSM := Lib.hid (fun m => parts_same (D := D) (n := k) (m := m))
      have HOP := Lib.hid (fun m recs hm => parts_open (D := D) (n := k) (m := m) (recs := recs) HV.out hm)
      have HTO : Hid (∀ (c : Nat) recs, Opn k (view D) c recs → max (cnt 0 (D.rd 0) (k - 2)) (cnt 1 (D.rd 1) (k - 2)) = (c : Int)) := Lib.hid (fun c recs o => o.top)
      clear HTOP
      generalize cnt 0 (D.rd 0) (k - 2) = x0 at *
      generalize cnt 1 (D.rd 1) (k - 2) = x1 at *
      generalize hC : max x0 x1 = C at *
      go_wp2_with fail
      refine HR0.out.mono ?_
      rintro e w1 ⟨rfl, rfl⟩
      go_wp2_with fail
      refine HR1.out.mono ?_
      rintro e w1 ⟨rfl, rfl⟩
      clear HR0 HR1
      go_wp2_with fail
      refine (HC0.out w).mono ?_
      rintro e w1 ⟨rfl, hb1⟩
      have B1 := Lib.hid hb1
      clear hb1 HC0
      go_wp2_with fail
      refine (HC1.out w1).mono ?_
      rintro e w2 ⟨rfl, hb2⟩
      have B2 := Lib.hid (B1.out.trans (hb2.mono B1.out.size))
      clear hb2 HC1 B1
      by_cases hc0 : C < 0
      · have HNO : Hid (¬ ∃ c recs, Opn k (view D) c recs) := Lib.hid (fun ⟨c, recs, o⟩ => by have := HTO.out c recs o; omega)
        go_wp2_with fail
        go_ret3
        exact Or.inl ⟨HNO.out, rfl, B2.out⟩
      obtain ⟨m, rfl⟩ : ∃ m : Nat, C = m := ⟨C.toNat, by omega⟩
      have hmn := HTL.out m rfl
      have m0 : (0 : Int) ≤ (m : Int) := Int.natCast_nonneg _
      have hm2 : m + 2 ≤ k := by omega
      have HNP2 := Lib.hid (fun j hj => HNP.out m j hj rfl)
      have HSM2 := Lib.hid (fun c recs o => HSM.out m rfl (c := c) (recs := recs) o)
      have HOP2 := Lib.hid (fun recs => HOP.out m recs hm2 rfl)
      clear HTL HNP HSM HOP HTO hc0
      have HO0 : Hid (w2.ownsRow w2.heap.size 5 1 (.slice none 0 0) (prts D 0).flatten.length (Lib.byteCells (prts D 0).flatten)) := Lib.hid (World.ownsRow_nil _ _ _ _)
      have HF0 : Hid (Full D 0) := Lib.hid (fun i hi => absurd hi (Nat.not_lt_zero _))
      have HB0 : Hid (Below w2.heap.size w2 w2) := Lib.hid (Below.refl _ _)
      obtain ⟨i5, hi5, ha5, hb5, hc5⟩ := info_parts info5
      go_wp2_with fail
      obtain ⟨wc, rfl⟩ : ∃ wc : World, wc = w2 := ⟨_, rfl⟩
      go_loopw [13, 14] (fun v i wr => ∃ j : Nat, j ≤ m ∧ i = .int .i64 j ∧ Hid (wr.ownsRow wc.heap.size 5 1 v (prts D j).flatten.length (Lib.byteCells (prts D j).flatten)) ∧ Hid (Full D j) ∧ Hid (Below wc.heap.size wc wr)) (fun _ i _ => m - (intOf i).toNat)
      case atStart => exact ⟨0, by omega, rfl, HO0, HF0, HB0⟩
      case round =>
        clear HO0 HF0 HB0
        obtain ⟨j, hj, rfl, HO, HF, HB⟩ := hrel
        have j0 : (0 : Int) ≤ (j : Int) := Int.natCast_nonneg _
        have hz : wc.heap.size ≤ wr.heap.size := HB.out.size
        have BW := Lib.hid (B2.out.trans (HB.out.mono B2.out.size))
        by_cases hlj : j < m
        · have j1 : (j : Int) < (m : Int) := by omega
          have HR := rread_yes wr F d k D (2 + j) (HD.out.below BW.out) HON.out (by omega) (by omega)
          rw [show ((2 + j : Nat) : Int) = 2 + (j : Int) by omega] at HR
          replace HR := Lib.hid HR
          have HP := rpiece_any wr (2 + j) (D.rd (2 + j)) (rd_len HV.out (by omega)) (by omega)
          rw [show ((2 + j : Nat) : Int) = 2 + (j : Int) by omega] at HP
          replace HP := Lib.hid HP
          have HSU := Lib.hid (prts_succ D j)
          have HBY := Lib.hid (prts_bytes (D := D) (k := j))
          have HNO := Lib.hid (fun h => HNP2.out j hlj h)
          have HFS := Lib.hid (fun (h : pieceP (2 + j) (D.rd (2 + j)) ≠ []) => (fun i hi => by
            rcases Nat.lt_or_ge i j with e | e
            · exact HF.out i e
            · obtain rfl : i = j := by omega
              exact h : Full D (j + 1)))
          have HPL : Hid ((pieceP (2 + j) (D.rd (2 + j))).length ≤ 64) := Lib.hid (by
            by_cases e : pieceP (2 + j) (D.rd (2 + j)) = []
            · rw [e]; simp
            · have := piece_is (rd_len HV.out (show 2 + j < k by omega)) e
              omega)
          generalize pieceP (2 + j) (D.rd (2 + j)) = t at *
          generalize D.rd (2 + j) = rdj at *
          go_wp2_with fail
          refine HR.out.mono ?_
          rintro e w3 ⟨rfl, rfl⟩
          clear HR
          go_wp2_with fail
          refine HP.out.mono ?_
          rintro e w3 ⟨rfl, hb3⟩
          have B3 := Lib.hid (HB.out.trans (hb3.mono hz))
          have BR3 := Lib.hid hb3
          clear HP hb3
          have htz : (⟨t.toArray⟩ : ByteArray).size = t.length := by simp [ByteArray.size]
          have htl := HPL.out
          have hbl := HBY.out
          by_cases ht : t = []
          · have HN := Lib.hid (HNO.out ht)
            subst ht
            go_wp2_with fail
            go_ret3
            exact Or.inl ⟨HN.out, rfl, B2.out.trans (B3.out.mono B2.out.size)⟩
          · have hte : (t == []) = false := by simpa using ht
            have hte2 : t.isEmpty = false := by simpa using ht
            have HFN := Lib.hid (HFS.out ht)
            have hz3 : wc.heap.size ≤ w3.heap.size := B3.out.size
            have HO3 := Lib.hid (own_below HO.out BR3.out)
            have HSF : Hid ((prts D (j + 1)).flatten = (prts D j).flatten ++ t) := Lib.hid (by rw [HSU.out]; simp)
            generalize (prts D j).flatten = T at *
            clear HNO HFS
            go_wp2_with (at_builtin; refine Lib.wpList_append_own_string _ rfl (.tmp 87) (.tmp 88) 56 9 rfl wc.heap.size 5 i5 Tryz.underlying56 Tryz.underlying9 hi5 ha5 hb5 hc5 _ T.length (Lib.byteCells T) rfl HO3.out ⟨t.toArray⟩ rfl (by unfold maxLen; omega) (by omega) hz3 ?_)
            intro v1 w4 ho4 hg4 _
            have B4 := Lib.hid (B3.out.grown hg4 hz3 (fun k hk => (HO3.out.lt k hk).1))
            have O4 : Hid (w4.ownsRow wc.heap.size 5 1 v1 (prts D (j + 1)).flatten.length (Lib.byteCells (prts D (j + 1)).flatten)) := Lib.hid (by
              rw [HSF.out, List.length_append, byte_app, ← byte_str t]
              exact ho4)
            clear ho4 hg4 HO3
            go_wp2_with fail
            go_roundw
            case rel => exact ⟨j + 1, by omega, by go_num, O4, HFN, B4⟩
            case measure => simp [intOf]; omega
        · obtain rfl : j = m := by omega
          have kc := bytes_row HO.out
          have hfl := prts_bytes (D := D) (k := j)
          have HPA := Lib.hid (rparse_any wr (prts D j).flatten (by omega))
          generalize (prts D j).flatten = T at *
          clear HNP2 hC
          go_wp2_with fail
          refine HPA.out.mono ?_
          rintro e w5 (⟨rv, recs, rfl, hte, hok, hro, hb⟩ | ⟨rfl, hno, hb⟩)
          rotate_left
          · have HNO : Hid (¬ ∃ c recs, Opn k (view D) c recs) := Lib.hid (fun ⟨c, recs, o⟩ => hno ⟨recs, o.ok, HSM2.out c recs o⟩)
            have B5 := Lib.hid (BW.out.trans (hb.mono BW.out.size))
            clear hno hb HPA
            go_wp2_with fail
            go_ret3
            exact Or.inl ⟨HNO.out, rfl, B5.out⟩
          have HOPN := Lib.hid (HOP2.out recs HF.out hte hok)
          have hrl : recs.length ≤ 100000 := by
            rw [hte] at hfl
            have := textP_two recs
            omega
          have B5 := Lib.hid (BW.out.trans (hb.mono BW.out.size))
          have HRO := Lib.hid (own_low hro BW.out.size)
          obtain ⟨ra, rc, rfl⟩ : ∃ ra rc, rv = .slice ra recs.length rc := by
            rcases hro.2 with ⟨rfl, e⟩ | ⟨q, cap, cur, rfl, _⟩
            · exact ⟨none, 0, by rw [e]⟩
            · exact ⟨_, _, rfl⟩
          have M0 := Lib.hid (RML.init (c := j) HD.out HON.out hm B5.out HRO.out)
          have hjw := B5.out.size
          clear hte hok hro hb HPA HSM2 HOP2 HRO HF HO HB hfl BW B5 hz hj j0 hlj
          go_wp2_with fail
          generalize w5.alloc (.cells #[.pointer (some ⟨d, 0, none⟩), .int .i64 (k : Int), .int .i64 (j : Int), .slice ra recs.length rc, .bool false] 81) = w6 at *
          generalize w5.heap.size = jb at *
          clear kc
          go_loopw [21] (fun i wr => ∃ (p : Nat) (E : PD) (F' : Nat → Prop), p ≤ 2 ∧ i = .int .i64 p ∧ Hid (RML D F d k jb j p (rest (view D) j p) (.slice ra recs.length rc) recs E F' w wr)) (fun i _ => 2 - (intOf i).toNat)
          case atStart => exact ⟨0, D, F, by omega, rfl, M0⟩
          case round =>
            clear M0
            obtain ⟨p, E, F', hp2, rfl, M⟩ := hrel
            have p0 : (0 : Int) ≤ (p : Int) := Int.natCast_nonneg _
            by_cases hlt2 : p < 2
            · have p1 : (p : Int) < 2 := by omega
              have HR := rread_yes wr F' d k E p M.out.dat M.out.on (by omega) (by have := M.out.pend; omega)
              rw [M.out.rdo p (Nat.le_refl _)] at HR
              replace HR := Lib.hid HR
              have HH := Lib.hid (fun W => rhead_any W p j (by omega) (by omega))
              go_wp2_with fail
              refine HR.out.mono ?_
              rintro e w7 ⟨rfl, rfl⟩
              clear HR
              go_wp2_with fail
              refine (HH.out wr).mono ?_
              rintro e w8 ⟨rfl, hb8⟩
              have M8 := Lib.hid (M.out.below hb8)
              clear hb8 M
              by_cases ha : D.rd p = headP p j
              · have b1 : (D.rd p == headP p j) = true := by simpa using ha
                have MS := Lib.hid (M8.out.skip hlt2 (Or.inl ha))
                clear ha M8
                go_wp2_with fail
                go_roundw
                case rel => exact ⟨p + 1, E, F', by omega, by go_num, MS⟩
                case measure => simp [intOf]; omega
              have b1 : (D.rd p == headP p j) = false := by simpa using ha
              by_cases hm0 : j = 0
              · have b2 : ((j : Int) == 0) = true := by rw [beq_iff_eq]; omega
                have b4 : ¬ (0 : Int) < (j : Int) := by omega
                by_cases hz0 : D.rd p = zeroT
                · have b3 : (D.rd p == zeroT) = true := by simpa using hz0
                  have MS := Lib.hid (M8.out.skip hlt2 (Or.inr ⟨hm0, hz0⟩))
                  clear ha hz0 hm0
                  go_wp2_with fail
                  refine (rzero_any w8).mono ?_
                  rintro e w9 ⟨rfl, hb9⟩
                  have M9 := Lib.hid (MS.out.below hb9)
                  clear hb9 MS M8
                  go_wp2_with fail
                  go_roundw
                  case rel => exact ⟨p + 1, E, F', by omega, by go_num, M9⟩
                  case measure => simp [intOf]; omega
                · have b3 : (D.rd p == zeroT) = false := by simpa using hz0
                  have MB := M8.out.bad hlt2 (fun x => by rcases x with x | ⟨_, x⟩; exact ha x; exact hz0 x)
                  rw [if_neg (by omega), List.nil_append] at MB
                  replace MB := Lib.hid MB
                  clear ha hz0 hm0
                  go_wp2_with fail
                  refine (rzero_any w8).mono ?_
                  rintro e w9 ⟨rfl, hb9⟩
                  have M9 := Lib.hid (MB.out.below hb9)
                  clear hb9 MB M8
                  go_wp2_with fail
                  refine (rzero_any (w9.alloc (.cells #[.int .i64 (p : Int)] 3))).mono ?_
                  rintro e wza ⟨rfl, hbz⟩
                  have Pa := Lib.hid (pl_one (F' := F') (p := p) (zeroT) M9.out.dat.lt hbz)
                  have MWa := Lib.hid (M9.out.below Pa.out.2.2)
                  have HW := Lib.hid (rjwrite_any (wza.alloc (.cells #[.string ⟨(zeroT).toArray⟩] 9)) F' jb d k p (E) _ _ _ [zeroT] MWa.out.dat MWa.out.jour rfl MWa.out.nj Pa.out.1 Pa.out.2.1 (by simp [zeroT_len]) (by simp; omega) (by have := MWa.out.pend; omega))
                  rw [show rowAt p [zeroT] = [(p, zeroT)] from rfl] at HW
                  clear hbz Pa
                  rcases writes_cases [(p, zeroT)] (E) with hw | hw
                  rotate_left
                  · rw [hw] at HW
                    have HWW := Lib.hid hw
                    clear hw
                    go_wp2_with fail
                    refine HW.out.mono ?_
                    rintro e w9 ⟨rfl, F9, g1, g2⟩
                    have HX := Lib.hid (MWa.out.stop HOPN.out HWW.out g1 g2)
                    clear g1 g2 HW
                    go_wp2_with fail
                    go_ret3
                    exact HX.out
                  rw [hw] at HW
                  have HWW := Lib.hid hw
                  clear hw
                  go_wp2_with fail
                  refine HW.out.mono ?_
                  rintro e wa8 ⟨rfl, Fa8, g1, g2⟩
                  have MSa := Lib.hid (MWa.out.seg HWW.out g1 g2)
                  clear g1 g2 HW MWa HWW
                  go_wp2_with fail
                  go_roundw
                  case rel => exact ⟨p + 1, (E.writes [(p, zeroT)]).1, Fa8, by omega, by go_num, MSa⟩
                  case measure => simp [intOf]; omega
              · have b2 : ((j : Int) == 0) = false := by rw [beq_eq_false_iff_ne]; omega
                have b4 : (0 : Int) < (j : Int) := by omega
                have MB := M8.out.bad hlt2 (fun x => by rcases x with x | ⟨x, _⟩; exact ha x; exact hm0 x)
                rw [if_pos (by omega)] at MB
                replace MB := Lib.hid MB
                clear ha hm0 M8
                go_wp2_with fail
                refine (rzero_any (w8.alloc (.cells #[.int .i64 (p : Int)] 3))).mono ?_
                rintro e wzb ⟨rfl, hbz⟩
                have Pb := Lib.hid (pl_one (F' := F') (p := p) (zeroT) MB.out.dat.lt hbz)
                have MWb := Lib.hid (MB.out.below Pb.out.2.2)
                have HW := Lib.hid (rjwrite_any (wzb.alloc (.cells #[.string ⟨(zeroT).toArray⟩] 9)) F' jb d k p (E) _ _ _ [zeroT] MWb.out.dat MWb.out.jour rfl MWb.out.nj Pb.out.1 Pb.out.2.1 (by simp [zeroT_len]) (by simp; omega) (by have := MWb.out.pend; omega))
                rw [show rowAt p [zeroT] = [(p, zeroT)] from rfl] at HW
                clear hbz Pb
                rcases writes_cases [(p, zeroT)] (E) with hw | hw
                rotate_left
                · rw [hw] at HW
                  have HWW := Lib.hid hw
                  clear hw
                  go_wp2_with fail
                  refine HW.out.mono ?_
                  rintro e w9 ⟨rfl, F9, g1, g2⟩
                  have HX := Lib.hid (MWb.out.stop HOPN.out HWW.out g1 g2)
                  clear g1 g2 HW
                  go_wp2_with fail
                  go_ret3
                  exact HX.out
                rw [hw] at HW
                have HWW := Lib.hid hw
                clear hw
                go_wp2_with fail
                refine HW.out.mono ?_
                rintro e wb8 ⟨rfl, Fb8, g1, g2⟩
                have MSb := Lib.hid (MWb.out.seg HWW.out g1 g2)
                clear g1 g2 HW MWb HWW
                go_wp2_with fail
                refine (HH.out (wb8.alloc (.cells #[.int .i64 (p : Int)] 3))).mono ?_
                rintro e wzc ⟨rfl, hbz⟩
                have Pc := Lib.hid (pl_one (F' := Fb8) (p := p) (headP p j) MSb.out.dat.lt hbz)
                have MWc := Lib.hid (MSb.out.below Pc.out.2.2)
                have HW := Lib.hid (rjwrite_any (wzc.alloc (.cells #[.string ⟨(headP p j).toArray⟩] 9)) Fb8 jb d k p ((E.writes [(p, zeroT)]).1) _ _ _ [headP p j] MWc.out.dat MWc.out.jour rfl MWc.out.nj Pc.out.1 Pc.out.2.1 (by simp [head_len]) (by simp; omega) (by have := MWc.out.pend; omega))
                rw [show rowAt p [headP p j] = [(p, headP p j)] from rfl] at HW
                clear hbz Pc
                rcases writes_cases [(p, headP p j)] ((E.writes [(p, zeroT)]).1) with hw | hw
                rotate_left
                · rw [hw] at HW
                  have HWW := Lib.hid hw
                  clear hw
                  go_wp2_with fail
                  refine HW.out.mono ?_
                  rintro e w9 ⟨rfl, F9, g1, g2⟩
                  have HX := Lib.hid (MWc.out.stop HOPN.out HWW.out g1 g2)
                  clear g1 g2 HW
                  go_wp2_with fail
                  go_ret3
                  exact HX.out
                rw [hw] at HW
                have HWW := Lib.hid hw
                clear hw
                go_wp2_with fail
                refine HW.out.mono ?_
                rintro e wc8 ⟨rfl, Fc8, g1, g2⟩
                have MSc := Lib.hid (MWc.out.seg HWW.out g1 g2)
                clear g1 g2 HW MWc HWW
                go_wp2_with fail
                go_roundw
                case rel => exact ⟨p + 1, (((E.writes [(p, zeroT)]).1).writes [(p, headP p j)]).1, Fc8, by omega, by go_num, MSc⟩
                case measure => simp [intOf]; omega
            · obtain rfl : p = 2 := by omega
              have OM := Lib.hid (own_mt wr wr.heap.size (Nat.le_refl _))
              have A := Lib.hid (Gr.one wr (.cells #[] 9)).below
              have R6 := Lib.hid (SR.own (F := fun _ => False) (own_below M.out.rrow A.out) (fun _ _ => id))
              go_wp2_with (at_builtin; refine wpList_append_strs rfl (.tmp 152) (.tmp 153) rfl wr.heap.size 0 (.slice (some ⟨wr.heap.size, 0, none⟩) 0 0) [] recs (fun _ => False) (.slice ra recs.length rc) rfl rfl OM.out R6.out (by omega) (by simp) ?_)
              intro v1 w9 o9 g9 _
              have B9 := Lib.hid (A.out.grown g9 A.out.size (fun x hx => by cases hx; exact Nat.le_refl _))
              have HX := Lib.hid (M.out.done HOPN.out hm2 hrl hjw (by simpa using o9) B9.out)
              clear o9 g9
              go_wp2_with fail
              go_ret3
              exact HX.out
end Go.Proofs.YtihoomlaggihlaaGreatDoor
