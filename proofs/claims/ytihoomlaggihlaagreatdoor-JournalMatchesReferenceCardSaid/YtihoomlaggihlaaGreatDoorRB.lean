/- The contracts of the reference disk's set, settle and Fail. Under no condition but sizes. -/
/- The contracts of the reference disk in memory: Fail, count, Write, Sync, Start, Arm, Read. Under no condition but sizes. -/
/- The contracts of the reference disk's New, Rot and Raw, and of the disk's Raw. Under no condition but sizes. -/
import Derived.Test.YtihoomlaggihlaaGreatDoorKD
import Derived.Test.YtihoomlaggihlaaGreatDoorJW
import Derived.Laws.OwnMore
import Derived.Deep.AppendLies
import Derived.StillTailTactics
import Derived.Test.YtihoomlaggihlaaGreatDoorRP
namespace Go.Proofs.YtihoomlaggihlaaGreatDoor
open Go.RowKit

/-- the reference disk's block -/
def RB (w : World) (d sb n cap : Nat) (qv : Value) (on armed : Bool) (a x y : Int) : Prop := w.heap[d]? = some (.cells #[.slice (some ⟨sb, 0, none⟩) n cap, qv, .bool on, .bool armed, .int .i64 a, .int .i64 x, .int .i64 y] 79 (0, 0))
/-- its pending writes -/
def flatR (l : List (Nat × List UInt8)) : List Value := l.flatMap fun p => [.int .i64 (p.1 : Int), .string ⟨p.2.toArray⟩]
theorem flatR_length : ∀ l : List (Nat × List UInt8), (flatR l).length = l.length * 2
  | [] => rfl
  | p :: l => by
    have := flatR_length l
    simp only [flatR, List.flatMap_cons, List.length_append, List.length_cons, List.length_nil] at this ⊢
    omega
theorem flatR_get : ∀ (l : List (Nat × List UInt8)) (k : Nat) (h : k < l.length), (flatR l)[k * 2]? = some (.int .i64 (l[k].1 : Int)) ∧ (flatR l)[k * 2 + 1]? = some (.string ⟨l[k].2.toArray⟩)
  | p :: l, 0, h => by simp [flatR]
  | p :: l, k + 1, h => by
    have i := flatR_get l k (by simp at h; omega)
    have e : flatR (p :: l) = [.int .i64 (p.1 : Int), .string ⟨p.2.toArray⟩] ++ flatR l := by simp [flatR]
    rw [e, List.getElem?_append_right (by simp; omega), List.getElem?_append_right (by simp; omega)]
    simp only [List.length_cons, List.length_nil, List.getElem_cons_succ]
    rw [show (k + 1) * 2 - (0 + 1 + 1) = k * 2 by omega, show (k + 1) * 2 + 1 - (0 + 1 + 1) = k * 2 + 1 by omega]
    exact i
theorem RB.keep {w w' : World} {d sb n cap : Nat} {qv : Value} {on armed : Bool} {a x y : Int} (h : RB w d sb n cap qv on armed a x y) (hb : Below w.heap.size w w') : RB w' d sb n cap qv on armed a x y := (hb.block _ (heap_lt h)).trans h
theorem RB.cells {w : World} {d sb n cap : Nat} {qv : Value} {on armed : Bool} {a x y : Int} (h : RB w d sb n cap qv on armed a x y) : d < w.heap.size ∧ w.cell? ⟨d, 0, none⟩ = some (.slice (some ⟨sb, 0, none⟩) n cap) ∧ w.cell? ⟨d, 1, none⟩ = some qv ∧ w.cell? ⟨d, 2, none⟩ = some (.bool on) ∧ w.cell? ⟨d, 3, none⟩ = some (.bool armed) ∧ w.cell? ⟨d, 4, none⟩ = some (.int .i64 a) ∧ w.cell? ⟨d, 5, none⟩ = some (.int .i64 x) ∧ w.cell? ⟨d, 6, none⟩ = some (.int .i64 y) ∧ ∀ j, w.frozen? ⟨d, j, none⟩ = false :=
  ⟨heap_lt h, cell_at h rfl, cell_at h rfl, cell_at h rfl, cell_at h rfl, cell_at h rfl, cell_at h rfl, cell_at h rfl, fun j => frozen_at h j⟩
theorem RB.set1 {w : World} {d sb n cap : Nat} {qv : Value} {on armed : Bool} {a x y : Int} (h : RB w d sb n cap qv on armed a x y) (u : Value) : RB (w.setCell ⟨d, 1, none⟩ u) d sb n cap u on armed a x y := by
  have k := heap_setCell_same w d 1 _ _ u h
  simpa [RB] using k
theorem RB.set2 {w : World} {d sb n cap : Nat} {qv : Value} {on armed : Bool} {a x y : Int} (h : RB w d sb n cap qv on armed a x y) (b : Bool) : RB (w.setCell ⟨d, 2, none⟩ (.bool b)) d sb n cap qv b armed a x y := by
  have k := heap_setCell_same w d 2 _ _ (.bool b) h
  simpa [RB] using k
theorem RB.set3 {w : World} {d sb n cap : Nat} {qv : Value} {on armed : Bool} {a x y : Int} (h : RB w d sb n cap qv on armed a x y) (b : Bool) : RB (w.setCell ⟨d, 3, none⟩ (.bool b)) d sb n cap qv on b a x y := by
  have k := heap_setCell_same w d 3 _ _ (.bool b) h
  simpa [RB] using k
theorem RB.set4 {w : World} {d sb n cap : Nat} {qv : Value} {on armed : Bool} {a x y : Int} (h : RB w d sb n cap qv on armed a x y) (z : Int) : RB (w.setCell ⟨d, 4, none⟩ (.int .i64 z)) d sb n cap qv on armed z x y := by
  have k := heap_setCell_same w d 4 _ _ (.int .i64 z) h
  simpa [RB] using k
theorem RB.set5 {w : World} {d sb n cap : Nat} {qv : Value} {on armed : Bool} {a x y : Int} (h : RB w d sb n cap qv on armed a x y) (z : Int) : RB (w.setCell ⟨d, 5, none⟩ (.int .i64 z)) d sb n cap qv on armed a z y := by
  have k := heap_setCell_same w d 5 _ _ (.int .i64 z) h
  simpa [RB] using k
theorem RB.set6 {w : World} {d sb n cap : Nat} {qv : Value} {on armed : Bool} {a x y : Int} (h : RB w d sb n cap qv on armed a x y) (z : Int) : RB (w.setCell ⟨d, 6, none⟩ (.int .i64 z)) d sb n cap qv on armed a x z := by
  have k := heap_setCell_same w d 6 _ _ (.int .i64 z) h
  simpa [RB] using k
/-- the stable sectors' row -/
def RS9 (w : World) (sb n cap : Nat) (ss : List (List UInt8)) : Prop := w.ownsRow 0 9 1 (.slice (some ⟨sb, 0, none⟩) n cap) n (strs ss)
theorem RS9.tag {w : World} {sb n cap : Nat} {ss : List (List UInt8)} (h : RS9 w sb n cap ss) : ∃ cur, w.heap[sb]? = some (.cells cur 9 (0, 0)) := by
  rcases h.2 with ⟨e, _⟩ | ⟨g, c, cur, e, _, hg, _⟩
  · cases e
  · cases e; exact ⟨cur, hg⟩
theorem RS9.cell {w : World} {sb n cap : Nat} {ss : List (List UInt8)} (h : RS9 w sb n cap ss) {i : Nat} (hi : i < n) : w.cell? ⟨sb, i, none⟩ = some (.string ⟨(ss.getD i []).toArray⟩) := by
  rw [h.cellAt i (by omega)]
  have hl : ss.length = n := by have := h.1; simpa [strs] using this
  simp only [strs]
  rw [List.getElem?_map, List.getElem?_eq_getElem (by omega), List.getD_eq_getElem?_getD, List.getElem?_eq_getElem (by omega)]
  rfl
theorem RS9.frozen {w : World} {sb n cap : Nat} {ss : List (List UInt8)} (h : RS9 w sb n cap ss) (i : Nat) : w.frozen? ⟨sb, i, none⟩ = false := h.frozenAt i
theorem RS9.cap {w : World} {sb n cap : Nat} {ss : List (List UInt8)} (h : RS9 w sb n cap ss) : n ≤ cap ∧ cap ≤ 9223372036854775807 := by
  rcases h.2 with ⟨e, _⟩ | ⟨g, c, cur, e, _, hg, h1, h2, _⟩
  · cases e
  · cases e; exact ⟨h1, h2⟩
theorem RS9.set {w : World} {sb n cap : Nat} {ss : List (List UInt8)} (h : RS9 w sb n cap ss) (i : Nat) (t : List UInt8) : RS9 (w.setCell ⟨sb, i, none⟩ (.string ⟨t.toArray⟩)) sb n cap (ss.set i t) ∧ Out (· = sb) w (w.setCell ⟨sb, i, none⟩ (.string ⟨t.toArray⟩)) := by
  obtain ⟨h1, h2⟩ := h.stored i (.string ⟨t.toArray⟩)
  refine ⟨?_, Out.grown h2 (fun k hk => by cases hk; rfl)⟩
  have e : strs (ss.set i t) = (strs ss).set i (.string ⟨t.toArray⟩) := by simp [strs, List.map_set]
  unfold RS9
  rw [e]; exact h1
theorem RS9.out {w w' : World} {sb n cap : Nat} {ss : List (List UInt8)} {F : Nat → Prop} (h : RS9 w sb n cap ss) (o : Out F w w') (hF : ¬ F sb) : RS9 w' sb n cap ss := o.own h (fun k hk e => by cases hk; exact hF e)
theorem put_full {n : Nat} {S : List (List UInt8)} (h : Sec n S) {i : Nat} (hi : i < n) {t : List UInt8} (ht : t.length = 64) : put1 S i t = S.set i t := by
  unfold put1
  rw [List.drop_of_length_le (by rw [h.at hi]; omega), List.append_nil]
set_option maxHeartbeats 2000000 in
set_option maxRecDepth 100000 in
theorem rset_any (w : World) (d sb n cap i : Nat) (qv : Value) (on armed : Bool) (a x y : Int) (ss : List (List UInt8)) (t : List UInt8) (h : RB w d sb n cap qv on armed a x y) (hs : RS9 w sb n cap ss) (hi : i < n) :
    Calls Tryz.prog 64 #[.pointer (some ⟨d, 0, none⟩), .int .i64 i, .string ⟨t.toArray⟩] w fun e w' => e = .returned (.tuple #[]) ∧ RS9 w' sb n cap (ss.set i t) ∧ Out (· = sb) w w' := by
  obtain ⟨hd, c0, _⟩ := h.cells
  have HS := Lib.hid hs
  have fz := hs.frozen i
  have sc := hs.cell hi
  obtain ⟨hnc, hcm⟩ := hs.cap
  have hi0 : (0 : Int) ≤ (i : Int) := Int.natCast_nonneg _
  have hi1 : (i : Int) < (n : Int) := by omega
  clear h hs
  go_enter Tryz.func64, Tryz.ntmps64
  go_wp2_with fail
  go_end0
  exact ⟨rfl, (HS.out.set i t).1, (HS.out.set i t).2⟩
/-- pending writes in a row -/
def QR (w : World) (a : Option Addr) (l : List (Nat × List UInt8)) : Prop := ∀ k (hk : k < l.length), ∃ q cs, a = some ⟨q, 0, none⟩ ∧ w.heap[q]? = some (.cells cs 92 (0, 0)) ∧ cs[k * 2]? = some (.int .i64 (l[k].1 : Int)) ∧ cs[k * 2 + 1]? = some (.string ⟨l[k].2.toArray⟩)
theorem queue_r {w : World} {qv : Value} {l : List (Nat × List UInt8)} (h : w.ownsRow 0 92 2 qv l.length (flatR l)) : ∃ a c, qv = .slice a l.length c ∧ l.length ≤ c ∧ c ≤ 9223372036854775807 ∧ QR w a l := by
  rcases h.2 with ⟨rfl, e⟩ | ⟨g, cap, cur, rfl, _, hg, hc, hm, _, ht⟩
  · exact ⟨none, 0, by rw [e], by omega, by omega, fun k hk => by omega⟩
  · refine ⟨some ⟨g, 0, none⟩, cap, rfl, hc, hm, fun k hk => ⟨g, cur, rfl, hg, ?_⟩⟩
    have f := flatR_get l k hk
    rw [← ht] at f
    rw [List.getElem?_take_of_lt (by omega), List.getElem?_take_of_lt (by omega)] at f
    simpa using f
theorem settle_take {ss : List (List UInt8)} {l : List (Nat × List UInt8)} {k : Nat} (hk : k < l.length) : settleS ss (l.take (k + 1)) = put1 (settleS ss (l.take k)) l[k].1 l[k].2 := by
  rw [List.take_succ_eq_append_getElem hk, settle_app]
  rfl
/-- what settle has made of the first k pending writes -/
structure SR2 (w : World) (d sb n cap : Nat) (qv : Value) (on armed : Bool) (a x y : Int) (ss : List (List UInt8)) (l : List (Nat × List UInt8)) (k : Nat) (wr : World) : Prop where
  db : RB wr d sb n cap qv on armed a x y
  row : RS9 wr sb n cap (settleS ss (l.take k))
  out : Out (· = sb) w wr
set_option maxHeartbeats 4000000 in
set_option maxRecDepth 100000 in
theorem rsettle_any (w : World) (d sb n cap m : Nat) (qv : Value) (on armed : Bool) (a x y : Int) (ss : List (List UInt8)) (l : List (Nat × List UInt8)) (h : RB w d sb n cap qv on armed a x y) (hs : RS9 w sb n cap ss) (hS : Sec n ss) (hl : Whole n l) (hq : w.ownsRow 0 92 2 qv l.length (flatR l)) (hml : m ≤ l.length) :
    Calls Tryz.prog 63 #[.pointer (some ⟨d, 0, none⟩), .int .i64 m] w fun e w' => e = .returned (.tuple #[]) ∧ RS9 w' sb n cap (settleS ss (l.take m)) ∧ Out (· = sb) w w' := by
  obtain ⟨cur, htag⟩ := hs.tag
  have hds : d ≠ sb := tag_ne h htag (by decide)
  obtain ⟨qa, c, rfl, hlc, hcm, hqr⟩ := queue_r hq
  have HQ := Lib.hid hqr
  have HSB := Lib.hid htag
  have HR := Lib.hid (SR2.mk (w := w) (l := l) (ss := ss) (k := 0) h (by simpa [settleS] using hs) (Out.refl _ w))
  have HSec := Lib.hid hS
  have HWh := Lib.hid hl
  clear h hs hS hl hq hqr htag
  go_enter Tryz.func63, Tryz.ntmps63
  go_wp2_with fail
  obtain ⟨wo, rfl⟩ : ∃ wo : World, wo = w := ⟨_, rfl⟩
  go_loopw [4] (fun i wr => ∃ k : Nat, k ≤ m ∧ i = .int .i64 k ∧ Hid (SR2 wo d sb n cap (.slice qa l.length c) on armed a x y ss l k wr)) (fun i _ => m - (intOf i).toNat)
  case atStart => exact ⟨0, by omega, rfl, HR⟩
  case round =>
    clear HR
    obtain ⟨k, hk, rfl, M⟩ := hrel
    have hk0 : (0 : Int) ≤ (k : Int) := Int.natCast_nonneg _
    by_cases hkm : k < m
    · have hkl : k < l.length := by omega
      obtain ⟨q, cs, rfl, hh, q0, q1⟩ := HQ.out k hkl
      have hqs : q ≠ sb := tag_ne hh HSB.out (by decide)
      obtain ⟨h1, h2⟩ := HWh.out l[k] (List.getElem_mem hkl)
      have hh' := M.out.out.heap hh hqs
      have r0 := cell_at hh' q0
      have r1 := cell_at hh' q1
      have hql := heap_lt hh'
      obtain ⟨hd, c0, c1, _⟩ := M.out.db.cells
      have hk1 : (k : Int) < (l.length : Int) := by omega
      have hk2 : (k : Int) < (m : Int) := by omega
      have HST := Lib.hid (settle_take (ss := ss) hkl)
      have HP := Lib.hid (put_full (HSec.out.settle (l := l.take k) (HWh.out.take k).le) h1 h2)
      clear hh hh' q0 q1 h2
      generalize l[k].1 = i at *
      generalize l[k].2 = t at *
      go_wp2_with fail
      refine wp_region_still_tail 17 (by decide) (by kernel_rfl) ?_
      simp only [List.take_succ_cons, List.take_zero, List.drop_succ_cons, List.drop_zero]
      change wpStill _ _ (World.drew wr) _ _ _
      repeat still_step
      refine wpStill_nil ?_
      change wpList _ _ _ _ _ (World.drew wr)
      have BD := Lib.hid (Gr.drewn wr).below
      go_wp2_with fail
      refine (rset_any wr.drew d sb n cap i (.slice (some ⟨q, 0, none⟩) l.length c) on armed a x y (settleS ss (l.take k)) t (M.out.db.keep BD.out) (own_below M.out.row BD.out) h1).mono ?_
      rintro e w2 ⟨rfl, hr, ho⟩
      have M2 : Hid (SR2 wo d sb n cap (.slice (some ⟨q, 0, none⟩) l.length c) on armed a x y ss l (k + 1) w2) := Lib.hid ⟨ho.heap (M.out.db.keep BD.out) hds, by rw [HST.out, HP.out]; exact hr, (M.out.out.trans (Out.of_below (F := (· = sb)) BD.out) (fun _ e => Or.inl e)).trans ho (fun _ e => Or.inl e)⟩
      clear hr ho M r0 r1 c0 c1 hql hd
      go_wp2_with fail
      go_roundw
      case rel => exact ⟨k + 1, by omega, by go_num, M2⟩
      case measure => simp [intOf]; omega
    · obtain rfl : k = m := by omega
      go_wp2_with fail
      go_end0
      exact ⟨rfl, M.out.row, M.out.out⟩
theorem rfin_out (w w2 : World) (d sb n cap : Nat) (ss : List (List UInt8)) (hds : d ≠ sb) (hb : RS9 w2 sb n cap ss) (ho : Out (· = sb) w w2) :
    RS9 (((w2.setCell ⟨d, 1, none⟩ (.slice none 0 0)).setCell ⟨d, 2, none⟩ (.bool false)).setCell ⟨d, 3, none⟩ (.bool false)) sb n cap ss ∧
    Out (fun k => k = d ∨ k = sb) w (((w2.setCell ⟨d, 1, none⟩ (.slice none 0 0)).setCell ⟨d, 2, none⟩ (.bool false)).setCell ⟨d, 3, none⟩ (.bool false)) := by
  have k : Out (· = d) w2 (((w2.setCell ⟨d, 1, none⟩ (.slice none 0 0)).setCell ⟨d, 2, none⟩ (.bool false)).setCell ⟨d, 3, none⟩ (.bool false)) :=
    (((Out.set (F := (· = d)) w2 (a := ⟨d, 1, none⟩) (.slice none 0 0) rfl).trans (Out.set (F := (· = d)) _ (a := ⟨d, 2, none⟩) (.bool false) rfl) (fun _ e => Or.inl e)).trans (Out.set (F := (· = d)) _ (a := ⟨d, 3, none⟩) (.bool false) rfl) (fun _ e => Or.inl e))
  exact ⟨hb.out k (fun e => hds e.symm), (ho.mono (fun _ _ e => Or.inr e)).trans k (fun _ e => Or.inl (Or.inl e))⟩
/-- how Fail ends on a disk that is on -/
def FailR (d sb n cap : Nat) (a p q : Int) (T : List (List UInt8)) (w : World) (e : Ending) (w' : World) : Prop :=
  e = .returned (.tuple #[]) ∧ RB w' d sb n cap (.slice none 0 0) false false a p q ∧ RS9 w' sb n cap T ∧ Out (fun k => k = d ∨ k = sb) w w'
set_option maxHeartbeats 4000000 in
set_option maxRecDepth 100000 in
theorem rfail_full (w : World) (d sb n cap : Nat) (qv : Value) (armed : Bool) (a p q : Int) (ss : List (List UInt8)) (l : List (Nat × List UInt8)) (x y : Int) (h : RB w d sb n cap qv true armed a p q) (hs : RS9 w sb n cap ss) (hS : Sec n ss) (hl : Whole n l) (hq : w.ownsRow 0 92 2 qv l.length (flatR l)) (hx : max 0 (min x (l.length : Int)) = (l.length : Int)) :
    Calls Tryz.prog 21 #[.pointer (some ⟨d, 0, none⟩), .int .i64 x, .int .i64 y] w (FailR d sb n cap a p q (settleS ss l) w) := by
  obtain ⟨cur, htag⟩ := hs.tag
  have hds : d ≠ sb := tag_ne h htag (by decide)
  have HC := Lib.hid (rsettle_any w d sb n cap l.length qv true armed a p q ss l h hs hS hl hq (Nat.le_refl _))
  rw [List.take_length] at HC
  have H := Lib.hid h
  obtain ⟨qa, c, rfl, hlc, hcm, hqr⟩ := queue_r hq
  obtain ⟨hd, c0, c1, c2, c3, c4, c5, c6, fz⟩ := h.cells
  clear h hs hS hl hq hqr htag fz
  go_enter Tryz.func21, Tryz.ntmps21
  go_wp2_with fail
  refine HC.out.mono ?_
  rintro e w2 ⟨rfl, hr, ho⟩
  have H2 := Lib.hid (show RB w2 d sb n cap (.slice qa l.length c) true armed a p q from ho.heap H.out hds)
  obtain ⟨hd2, c02, c12, c22, c32, c42, c52, c62, fz2⟩ := H2.out.cells
  have f21 := fz2 1
  have f22 := fz2 2
  have f23 := fz2 3
  have E3 := Lib.hid (rfin_out w w2 d sb n cap _ hds hr ho)
  clear hr ho HC c0 c1 c2 c3 c4 c5 c6 fz2
  go_wp2_with fail
  go_end0
  exact ⟨rfl, ((H2.out.set1 _).set2 false).set3 false, E3.out.1, E3.out.2⟩
set_option maxHeartbeats 4000000 in
set_option maxRecDepth 100000 in
theorem rfail_some (w : World) (d sb n cap k j : Nat) (qv : Value) (armed : Bool) (a p q : Int) (ss : List (List UInt8)) (l : List (Nat × List UInt8)) (x y : Int) (h : RB w d sb n cap qv true armed a p q) (hs : RS9 w sb n cap ss) (hS : Sec n ss) (hl : Whole n l) (hq : w.ownsRow 0 92 2 qv l.length (flatR l)) (hx : max 0 (min x (l.length : Int)) = (k : Int)) (hk : k < l.length) (hy : max 0 (min y 64) = (j : Int)) :
    Calls Tryz.prog 21 #[.pointer (some ⟨d, 0, none⟩), .int .i64 x, .int .i64 y] w (FailR d sb n cap a p q (failS ss l k j) w) := by
  obtain ⟨cur, htag⟩ := hs.tag
  have hds : d ≠ sb := tag_ne h htag (by decide)
  have HC := Lib.hid (rsettle_any w d sb n cap k qv true armed a p q ss l h hs hS hl hq (by omega))
  have HF := Lib.hid (fail_at (ss := ss) hk j)
  have H := Lib.hid h
  have HSB := Lib.hid htag
  have HSec := Lib.hid (hS.settle (l := l.take k) (hl.take k).le)
  obtain ⟨qa, c, rfl, hlc, hcm, hqr⟩ := queue_r hq
  obtain ⟨g, cs, rfl, hh, q0, q1⟩ := hqr k hk
  have HG := Lib.hid (And.intro hh (And.intro q0 q1))
  have hgs : g ≠ sb := tag_ne hh htag (by decide)
  obtain ⟨h1, h2⟩ := hl l[k] (List.getElem_mem hk)
  have HT := Lib.hid h2
  obtain ⟨hd, c0, c1, c2, c3, c4, c5, c6, fz⟩ := h.cells
  have hk0 : (0 : Int) ≤ (k : Int) := Int.natCast_nonneg _
  have hk1 : (k : Int) < (l.length : Int) := by omega
  clear h hs hS hl hq hqr htag fz hh q0 q1 h2
  generalize l[k].1 = i at *
  generalize l[k].2 = t at *
  have i0 : (0 : Int) ≤ (i : Int) := Int.natCast_nonneg _
  have i1 : (i : Int) < (n : Int) := by omega
  have hz : (⟨t.toArray⟩ : ByteArray).size = 64 := by simp [ByteArray.size, HT.out]
  go_enter Tryz.func21, Tryz.ntmps21
  go_wp2_with fail
  refine HC.out.mono ?_
  rintro e w2 ⟨rfl, hr, ho⟩
  have HR2 := Lib.hid hr
  have HO2 := Lib.hid ho
  have H2 := Lib.hid (show RB w2 d sb n cap (.slice (some ⟨g, 0, none⟩) l.length c) true armed a p q from ho.heap H.out hds)
  obtain ⟨hd2, c02, c12, c22, c32, c42, c52, c62, fz2⟩ := H2.out.cells
  have f21 := fz2 1
  have f22 := fz2 2
  have f23 := fz2 3
  have hh2 := ho.heap HG.out.1 hgs
  have r0 := cell_at hh2 HG.out.2.1
  have r1 := cell_at hh2 HG.out.2.2
  have hg2 := heap_lt hh2
  have sc := hr.cell h1
  obtain ⟨cur2, htag2⟩ := hr.tag
  have hsb2 := heap_lt htag2
  have hol : ((settleS ss (l.take k)).getD i []).length = 64 := HSec.out.at h1
  have hz2 : (⟨((settleS ss (l.take k)).getD i []).toArray⟩ : ByteArray).size = 64 := by simp only [ByteArray.size, List.size_toArray]; exact hol
  have HPUT : Hid (put1 (settleS ss (l.take k)) i (t.take j) = (settleS ss (l.take k)).set i (t.take j ++ ((settleS ss (l.take k)).getD i []).drop (t.take j).length)) := Lib.hid rfl
  have HTK : Hid ((t.take j).length = min j 64) := Lib.hid (by rw [List.length_take, HT.out])
  clear hr ho HC c0 c1 c2 c3 c4 c5 c6 fz2 hh2 htag2
  generalize hOld : (settleS ss (l.take k)).getD i [] = old at *
  have HA := Lib.hid (show Below w2.heap.size w2 (w2.alloc (.cells #[.int .i64 (i : Int), .string ⟨t.toArray⟩] 92)) from (Gr.one w2 _).below)
  rcases Nat.eq_zero_or_pos j with hj | hj
  · subst hj
    have E3 := Lib.hid (rfin_out w w2 d sb n cap _ hds HR2.out HO2.out)
    have H3 := Lib.hid (((H2.out.set1 (.slice none 0 0)).set2 false).set3 false)
    go_wp2_with fail
    go_end0
    refine ⟨rfl, H3.out.keep (Gr.one _ _).below, ?_, E3.out.2.trans (Out.of_below (F := fun k => k = d ∨ k = sb) (Gr.one _ _).below) (fun _ e => Or.inl e)⟩
    rw [HF.out, List.take_zero, put_nil]
    exact own_below E3.out.1 (Gr.one _ _).below
  · have hj0 : (0 : Int) < (j : Int) := by omega
    have hj1 : (j : Int) ≤ 64 := by omega
    have hj2 : (0 : Int) ≤ (j : Int) := by omega
    have hcat : ¬ 9223372036854775807 < min j 64 + (64 - j) := by omega
    have yA0 : (w2.alloc (.cells #[.int .i64 (i : Int), .string ⟨t.toArray⟩] 92)).cell? ⟨d, 0, none⟩ = some (.slice (some ⟨sb, 0, none⟩) n cap) := (HA.out.cell (p := ⟨d, 0, none⟩) hd2).trans c02
    have yAs : (w2.alloc (.cells #[.int .i64 (i : Int), .string ⟨t.toArray⟩] 92)).cell? ⟨sb, i, none⟩ = some (.string ⟨old.toArray⟩) := (HA.out.cell (p := ⟨sb, i, none⟩) hsb2).trans sc
    have yN0 : (w2.alloc (.cells #[.int .i64 (i : Int), .string ⟨t.toArray⟩] 92)).cell? ⟨w2.heap.size, 0, none⟩ = some (.int .i64 (i : Int)) := cell_at (heap_alloc_new w2 _) rfl
    have yN1 : (w2.alloc (.cells #[.int .i64 (i : Int), .string ⟨t.toArray⟩] 92)).cell? ⟨w2.heap.size, 1, none⟩ = some (.string ⟨t.toArray⟩) := cell_at (heap_alloc_new w2 _) rfl
    have hdA : d < (w2.alloc (.cells #[.int .i64 (i : Int), .string ⟨t.toArray⟩] 92)).heap.size := Nat.lt_of_lt_of_le hd2 HA.out.size
    have hsA : sb < (w2.alloc (.cells #[.int .i64 (i : Int), .string ⟨t.toArray⟩] 92)).heap.size := Nat.lt_of_lt_of_le hsb2 HA.out.size
    have hnA : w2.heap.size < (w2.alloc (.cells #[.int .i64 (i : Int), .string ⟨t.toArray⟩] 92)).heap.size := by simp
    go_wp2_with fail
    generalize w2.alloc (.cells #[.int .i64 (i : Int), .string ⟨t.toArray⟩] 92) = wa at *
    refine wp_region_still_tail 18 (by decide) (by kernel_rfl) ?_
    simp only [List.take_succ_cons, List.take_zero, List.drop_succ_cons, List.drop_zero]
    change wpStill _ _ (World.drew wa) _ _ _
    repeat still_step
    refine wpStill_nil ?_
    change wpList _ _ _ _ _ (World.drew wa)
    go_wp2_with fail
    have e64 : ((64 : Nat) : Int) = 64 := rfl
    have HX : (⟨t.toArray⟩ : ByteArray).extract 0 j ++ (⟨old.toArray⟩ : ByteArray).extract j 64 = ⟨(t.take j ++ old.drop (t.take j).length).toArray⟩ := by
      rw [extract_take, HTK.out, Nat.min_eq_left (by omega)]
      have e2 : (⟨old.toArray⟩ : ByteArray).extract j 64 = ⟨(old.drop j).toArray⟩ := by
        apply ByteArray.ext
        apply Array.toList_inj.1
        rw [Lib.extract_data]
        exact List.take_of_length_le (by simp; omega)
      rw [e2]
      apply ByteArray.ext; simp
    rw [HX]
    refine (rset_any _ d sb n cap i (.slice (some ⟨g, 0, none⟩) l.length c) true armed a p q _ (t.take j ++ old.drop (t.take j).length) (H2.out.keep HA.out.drew) (own_below HR2.out HA.out.drew) h1).mono ?_
    rintro e w3 ⟨rfl, hr3, ho3⟩
    have H3 := Lib.hid (show RB w3 d sb n cap (.slice (some ⟨g, 0, none⟩) l.length c) true armed a p q from ho3.heap (H2.out.keep HA.out.drew) hds)
    have E4 := Lib.hid (rfin_out w w3 d sb n cap _ hds hr3 ((HO2.out.trans (Out.of_below (F := (· = sb)) HA.out.drew) (fun _ e => Or.inl e)).trans ho3 (fun _ e => Or.inl e)))
    obtain ⟨hd3, c03, c13, c23, c33, c43, c53, c63, fz3⟩ := H3.out.cells
    have f31 := fz3 1
    have f32 := fz3 2
    have f33 := fz3 3
    clear hr3 ho3 fz3
    go_wp2_with fail
    go_end0
    refine ⟨rfl, ((H3.out.set1 _).set2 false).set3 false, ?_, E4.out.2⟩
    rw [HF.out, HPUT.out]
    exact E4.out.1
set_option maxHeartbeats 4000000 in
set_option maxRecDepth 100000 in
theorem rfail_off (w : World) (d sb n cap : Nat) (qv : Value) (armed : Bool) (a p q : Int) (x y : Int) (h : RB w d sb n cap qv false armed a p q) :
    Calls Tryz.prog 21 #[.pointer (some ⟨d, 0, none⟩), .int .i64 x, .int .i64 y] w fun e w' => e = .returned (.tuple #[]) ∧ w = w' := by
  obtain ⟨hd, c0, c1, c2, c3, c4, c5, c6, fz⟩ := h.cells
  clear h fz
  go_enter Tryz.func21, Tryz.ntmps21
  go_wp2_with fail
  exact bodyPost_ret (v := .tuple #[]) (by simp [results, Tryz.results21, go_sem]) rfl ⟨rfl, rfl⟩
end Go.Proofs.YtihoomlaggihlaaGreatDoor

namespace Go.Proofs.YtihoomlaggihlaaGreatDoor
open Go.RowKit

/-- the alarm in the disk's block -/
def ArmR (armed : Bool) (a x y : Int) (al : Option (Int × Int × Int)) : Prop :=
  match al with
  | none => armed = false
  | some (p, q, r) => armed = true ∧ a = p ∧ x = q ∧ y = r
/-- the reference disk in memory: all its blocks in the footprint -/
structure RAt (w : World) (F : Nat → Prop) (d n : Nat) (D : PD) : Prop where
  vd : Vd n D
  n4 : n ≤ 4000
  lt : ∀ k, F k → k < w.heap.size
  fd : F d
  mem : ∃ sb cap qv armed a x y, RB w d sb n cap qv (!D.off) armed a x y ∧ RS9 w sb n cap D.ss ∧ w.ownsRow 0 92 2 qv D.pend.length (flatR D.pend) ∧ ArmR armed a x y D.alarm ∧ F sb ∧ ∀ k, qv.ownBlock = some k → F k
theorem RAt.below {w w' : World} {F : Nat → Prop} {d n : Nat} {D : PD} (h : RAt w F d n D) (o : Below w.heap.size w w') : RAt w' F d n D := by
  obtain ⟨sb, cap, qv, armed, a, x, y, h1, h2, h3, h4, h5, h6⟩ := h.mem
  exact ⟨h.vd, h.n4, fun k hk => Nat.lt_of_lt_of_le (h.lt k hk) o.size, h.fd, sb, cap, qv, armed, a, x, y, h1.keep o, own_below h2 o, own_below h3 o, h4, h5, h6⟩
theorem RAt.out {w w' : World} {F X : Nat → Prop} {d n : Nat} {D : PD} (h : RAt w F d n D) (o : Out X w w') (hX : ∀ k, F k → ¬ X k) : RAt w' F d n D := by
  obtain ⟨sb, cap, qv, armed, a, x, y, h1, h2, h3, h4, h5, h6⟩ := h.mem
  exact ⟨h.vd, h.n4, fun k hk => Nat.lt_of_lt_of_le (h.lt k hk) o.size, h.fd, sb, cap, qv, armed, a, x, y, o.heap h1 (hX _ h.fd), h2.out o (hX _ h5), o.own h3 (fun k hk => hX _ (h6 k hk)), h4, h5, h6⟩
theorem row_tag {w : World} {B e size n : Nat} {v : Value} {xs : List Value} (h : w.ownsRow B e size v n xs) {b : Nat} {cs : Array Value} {t : TypeId} (g : w.heap[b]? = some (.cells cs t (0, 0))) (ht : e ≠ t) : ∀ k, v.ownBlock = some k → k ≠ b := fun k hk e => by
  subst e
  exact own_tag h g ht hk
theorem rfail_any (w : World) (F : Nat → Prop) (d n : Nat) (D : PD) (x y : Int) (h : RAt w F d n D) :
    Calls Tryz.prog 21 #[.pointer (some ⟨d, 0, none⟩), .int .i64 x, .int .i64 y] w fun e w' => e = .returned (.tuple #[]) ∧ RAt w' F d n (D.fail x y) ∧ Out F w w' := by
  obtain ⟨sb, cap, qv, armed, a, p, q, h1, h2, h3, h4, h5, h6⟩ := h.mem
  by_cases ho : D.off = true
  · rw [ho] at h1
    refine (rfail_off w d sb n cap qv armed a p q x y h1).mono ?_
    rintro e w' ⟨rfl, rfl⟩
    have e1 : D.fail x y = D := by unfold PD.fail; rw [if_pos ho]
    rw [e1]
    exact ⟨rfl, h, Out.refl F w⟩
  · have ho : D.off = false := by simpa using ho
    rw [ho] at h1
    have e1 : D.fail x y = ⟨failS D.ss D.pend (max x 0).toNat (min (max y 0) 64).toNat, [], true, none⟩ := by unfold PD.fail; rw [if_neg (by simp [ho])]
    have hv : Vd n (D.fail x y) := h.vd.fail x y
    have key : ∀ e w', FailR d sb n cap a p q (failS D.ss D.pend (max x 0).toNat (min (max y 0) 64).toNat) w e w' → e = .returned (.tuple #[]) ∧ RAt w' F d n (D.fail x y) ∧ Out F w w' := by
      rintro e w' ⟨rfl, g1, g2, g3⟩
      have oF : Out F w w' := g3.mono (fun k _ e => by
        rcases e with e | e
        · rw [e]; exact h.fd
        · rw [e]; exact h5)
      refine ⟨rfl, ⟨hv, h.n4, fun k hk => Nat.lt_of_lt_of_le (h.lt k hk) oF.size, h.fd, sb, cap, .slice none 0 0, false, a, p, q, ?_, ?_, ?_, ?_, h5, by simp [Value.ownBlock]⟩, oF⟩
      · rw [e1]; exact g1
      · rw [e1]; exact g2
      · rw [e1]; exact World.ownsRow_nil _ _ _ _
      · rw [e1]; rfl
    by_cases hk : D.pend.length ≤ (max x 0).toNat
    · rw [fail_all hk] at key
      exact (rfail_full w d sb n cap qv armed a p q D.ss D.pend x y h1 h2 h.vd.sec h.vd.whole h3 (by omega)).mono key
    · exact (rfail_some w d sb n cap (max x 0).toNat (min (max y 0) 64).toNat qv armed a p q D.ss D.pend x y h1 h2 h.vd.sec h.vd.whole h3 (by omega) (by omega) (by omega)).mono key
set_option maxHeartbeats 2000000 in
set_option maxRecDepth 100000 in
theorem rcount_nil (w : World) (d sb n cap : Nat) (qv : Value) (on : Bool) (a x y : Int) (h : RB w d sb n cap qv on false a x y) :
    Calls Tryz.prog 102 #[.pointer (some ⟨d, 0, none⟩)] w fun e w' => e = .returned (.int .i64 0) ∧ w = w' := by
  obtain ⟨hd, c0, c1, c2, c3, c4, c5, c6, fz⟩ := h.cells
  clear h fz
  go_enter Tryz.func102, Tryz.ntmps102
  go_wp2_with fail
  go_ret
  exact ⟨rfl, rfl⟩
set_option maxHeartbeats 2000000 in
set_option maxRecDepth 100000 in
theorem rcount_later (w : World) (d sb n cap : Nat) (qv : Value) (on : Bool) (a x y : Int) (h : RB w d sb n cap qv on true a x y) (ha : 0 < a) (ha2 : a ≤ 9223372036854775807) :
    Calls Tryz.prog 102 #[.pointer (some ⟨d, 0, none⟩)] w fun e w' => e = .returned (.int .i64 0) ∧ w.setCell ⟨d, 4, none⟩ (.int .i64 (a - 1)) = w' := by
  obtain ⟨hd, c0, c1, c2, c3, c4, c5, c6, fz⟩ := h.cells
  have f4 := fz 4
  have b0 : (a == 0) = false := by rw [beq_eq_false_iff_ne]; omega
  have hw : IntKind.i64.wrap (a - 1) = a - 1 := IntWalk.i64_in _ (by omega)
  clear h fz
  go_enter Tryz.func102, Tryz.ntmps102
  go_wp2_with fail
  go_ret
  exact ⟨rfl, rfl⟩
set_option maxHeartbeats 4000000 in
set_option maxRecDepth 100000 in
theorem rcount_now (w : World) (F : Nat → Prop) (d n : Nat) (D : PD) (b c : Int) (h : RAt w F d n D) (ha : D.alarm = some (0, b, c)) :
    Calls Tryz.prog 102 #[.pointer (some ⟨d, 0, none⟩)] w fun e w' => e = .returned (.int .i64 21) ∧ RAt w' F d n (D.fail b c) ∧ Out F w w' := by
  have HF := Lib.hid (fun (W : World) (h : RAt W F d n D) => rfail_any W F d n D b c h)
  have HD := Lib.hid h
  obtain ⟨sb, cap, qv, armed, a, x, y, h1, h2, h3, h4, h5, h6⟩ := h.mem
  rw [ha] at h4
  obtain ⟨rfl, rfl, rfl, rfl⟩ := h4
  obtain ⟨hd, c0, c1, c2, c3, c4, c5, c6, fz⟩ := h1.cells
  clear h h1 h2 h3 h5 h6 ha fz
  go_enter Tryz.func102, Tryz.ntmps102
  go_wp2_with fail
  refine wp_region_still_tail 9 (by decide) (by kernel_rfl) ?_
  simp only [List.take_succ_cons, List.take_zero, List.drop_succ_cons, List.drop_zero]
  change wpStill _ _ (World.drew w) _ _ _
  repeat still_step
  refine wpStill_nil ?_
  change wpList _ _ _ _ _ (World.drew w)
  go_wp2_with fail
  refine (HF.out _ (HD.out.below (Gr.drewn w).below)).mono ?_
  rintro e w2 ⟨rfl, hb, ho⟩
  have HB := Lib.hid (And.intro hb ho)
  clear hb ho
  go_wp2_with fail
  go_ret
  exact ⟨rfl, HB.out.1, (Out.of_below (F := F) (Gr.drewn w).below).trans HB.out.2 (fun _ e => Or.inl e)⟩
theorem rcount_any (w : World) (F : Nat → Prop) (d n : Nat) (D : PD) (h : RAt w F d n D) :
    Calls Tryz.prog 102 #[.pointer (some ⟨d, 0, none⟩)] w fun e w' => e = .returned (.int .i64 D.count.2) ∧ RAt w' F d n D.count.1 ∧ Out F w w' := by
  obtain ⟨sb, cap, qv, armed, a, x, y, h1, h2, h3, h4, h5, h6⟩ := h.mem
  cases hal : D.alarm with
  | none =>
    rw [hal] at h4
    obtain rfl : armed = false := h4
    have e : D.count = (D, 0) := by unfold PD.count; rw [hal]
    rw [e]
    refine (rcount_nil w d sb n cap qv (!D.off) a x y h1).mono ?_
    rintro e w' ⟨rfl, rfl⟩
    exact ⟨rfl, h, Out.refl F w⟩
  | some t =>
    obtain ⟨p, b, c⟩ := t
    have hv := h.vd.al p b c hal
    by_cases ha : 0 < p
    · have e : D.count = ({ D with alarm := some (p - 1, b, c) }, 0) := by unfold PD.count; rw [hal]; simp [ha]
      rw [e]
      rw [hal] at h4
      obtain ⟨rfl, rfl, rfl, rfl⟩ := h4
      refine (rcount_later w d sb n cap qv (!D.off) a x y h1 ha (by omega)).mono ?_
      rintro e w' ⟨rfl, rfl⟩
      have o1 : Out (· = d) w (w.setCell ⟨d, 4, none⟩ (.int .i64 (a - 1))) := Out.set w (a := ⟨d, 4, none⟩) _ rfl
      have o : Out F w (w.setCell ⟨d, 4, none⟩ (.int .i64 (a - 1))) := Out.set w (a := ⟨d, 4, none⟩) _ h.fd
      obtain ⟨cur, htag⟩ := h2.tag
      refine ⟨rfl, ⟨⟨h.vd.sec, h.vd.whole, ?_⟩, h.n4, fun k hk => Nat.lt_of_lt_of_le (h.lt k hk) o.size, h.fd, sb, cap, qv, true, a - 1, x, y, h1.set4 _, h2.out o1 (tag_ne htag h1 (by decide)), o1.own h3 (row_tag h3 h1 (by decide)), ⟨rfl, rfl, rfl, rfl⟩, h5, h6⟩, o⟩
      intro a' b' c' e
      simp at e
      omega
    · obtain rfl : p = 0 := by omega
      have e : D.count = (D.fail b c, 21) := by unfold PD.count; rw [hal]; simp
      rw [e]
      exact rcount_now w F d n D b c h hal
theorem info92 : (Tryz.prog.info? 92).map (fun i => (i.zero, i.size, i.bytes)) = some (some (.agg #[.int .i64 0, .string ⟨#[]⟩]), 2, 24) := by kernel_rfl
theorem rwrite_dat {w W w5 : World} {F : Nat → Prop} {d n g cap sb c0 i : Nat} {D : PD} {qv : Value} {armed : Bool} {a x y : Int} {t : List UInt8} (h : RAt w F d n D) (h1 : RB w d sb n c0 qv (!D.off) armed a x y) (h2 : RS9 w sb n c0 D.ss) (h3 : w.ownsRow 0 92 2 qv D.pend.length (flatR D.pend)) (h4 : ArmR armed a x y D.alarm) (h5 : F sb) (h6 : ∀ k, qv.ownBlock = some k → F k)
    (hW : Below w.heap.size w W) (o5 : w5.ownsRow 0 92 2 (.slice (some ⟨g, 0, none⟩) (D.pend.length + 1) cap) (D.pend.length + 1) (flatR D.pend ++ flatR [(i, t)])) (g5 : W.grownBy w5 qv.ownBlock) (l5 : qv.ownBlock = some g ∨ g = W.heap.size) (hi : i < n) (ht : t.length = 64) :
    RAt (w5.setCell ⟨d, 1, none⟩ (.slice (some ⟨g, 0, none⟩) (D.pend.length + 1) cap)) (fun k => F k ∨ k = g) d n { D with pend := D.pend ++ [(i, t)] } ∧ Stp F w (fun k => F k ∨ k = g) (w5.setCell ⟨d, 1, none⟩ (.slice (some ⟨g, 0, none⟩) (D.pend.length + 1) cap)) := by
  have b1 := h1.keep hW
  have b2 : RS9 W sb n c0 D.ss := own_below h2 hW
  have b3 := own_below h3 hW
  obtain ⟨cur, htag⟩ := b2.tag
  have c1 : RB w5 d sb n c0 qv (!D.off) armed a x y := grown_heap g5 b1 (own_tag b3 b1 (by decide))
  have c2 : RS9 w5 sb n c0 D.ss := b2.kept g5 (by
    right
    intro e
    exact own_tag b3 htag (by decide) e.symm)
  have o1 : Out (· = d) w5 (w5.setCell ⟨d, 1, none⟩ (.slice (some ⟨g, 0, none⟩) (D.pend.length + 1) cap)) := Out.set w5 (a := ⟨d, 1, none⟩) _ rfl
  have oF : Out F w (w5.setCell ⟨d, 1, none⟩ (.slice (some ⟨g, 0, none⟩) (D.pend.length + 1) cap)) :=
    ((Out.of_below (F := F) hW).trans (Out.grown (F := F) g5 h6) (fun _ e => Or.inl e)).trans (o1.mono (fun k _ e => by rw [e]; exact h.fd)) (fun _ e => Or.inl e)
  have hgl := (o5.lt g rfl).2
  obtain ⟨cur5, htag5⟩ := c2.tag
  refine ⟨⟨⟨h.vd.sec, h.vd.whole.app (fun p hp => ?_), h.vd.al⟩, h.n4, fun k hk => ?_, Or.inl h.fd, sb, c0, .slice (some ⟨g, 0, none⟩) (D.pend.length + 1) cap, armed, a, x, y, c1.set1 _, c2.out o1 (tag_ne htag5 c1 (by decide)), ?_, h4, Or.inl h5, fun k hk => Or.inr ?_⟩, oF, fun k hk => ?_⟩
  · simp at hp; rw [hp]; exact ⟨hi, ht⟩
  · rcases hk with hk | rfl
    · exact Nat.lt_of_lt_of_le (h.lt k hk) oF.size
    · exact Nat.lt_of_lt_of_le hgl o1.size
  · have e : flatR (D.pend ++ [(i, t)]) = flatR D.pend ++ flatR [(i, t)] := by simp [flatR]
    simp only [List.length_append, List.length_singleton]
    rw [e]
    exact o1.own o5 (row_tag o5 c1 (by decide))
  · simp [Value.ownBlock] at hk
    exact hk.symm
  · rcases hk with hk | rfl
    · exact Or.inl hk
    · rcases l5 with e | e
      · exact Or.inl (h6 _ e)
      · exact Or.inr (by rw [e]; exact hW.size)
set_option maxHeartbeats 4000000 in
set_option maxRecDepth 100000 in
theorem rwrite_off (w : World) (F : Nat → Prop) (d n : Nat) (D : PD) (i : Nat) (t : List UInt8) (h : RAt w F d n D) (ho : D.off = true) :
    Calls Tryz.prog 84 #[.pointer (some ⟨d, 0, none⟩), .int .i64 i, .string ⟨t.toArray⟩] w fun e w' => e = .returned (.int .i64 21) ∧ w = w' := by
  obtain ⟨sb, cap, qv, armed, a, x, y, h1, h2, h3, h4, h5, h6⟩ := h.mem
  rw [ho] at h1
  obtain ⟨hd, c0, c1, c2, c3, c4, c5, c6, fz⟩ := h1.cells
  clear h h1 h2 h3 h4 h5 h6 ho fz
  go_enter Tryz.func84, Tryz.ntmps84
  go_wp2_with fail
  go_ret
  exact ⟨rfl, rfl⟩
set_option maxHeartbeats 4000000 in
set_option maxRecDepth 100000 in
theorem rwrite_on (w : World) (F : Nat → Prop) (d n : Nat) (D : PD) (i : Nat) (t : List UInt8) (h : RAt w F d n D) (ho : D.off = false) (hi : i < n) (ht : t.length = 64) (hm : D.pend.length ≤ 10000) :
    Calls Tryz.prog 84 #[.pointer (some ⟨d, 0, none⟩), .int .i64 i, .string ⟨t.toArray⟩] w fun e w' => e = .returned (.int .i64 (D.write i t).2) ∧ ∃ F', RAt w' F' d n (D.write i t).1 ∧ Stp F w F' w' := by
  obtain ⟨sb, cap, qv, armed, a, x, y, h1, h2, h3, h4, h5, h6⟩ := h.mem
  have H := Lib.hid h
  have HM := Lib.hid (And.intro h1 (And.intro h2 (And.intro h3 (And.intro h4 (And.intro h5 h6)))))
  have HO := Lib.hid ho
  have HT := Lib.hid ht
  have HQT := Lib.hid (row_tag h3 h1 (by decide))
  have HQL := Lib.hid (fun k hk => (h3.lt k hk).2)
  rw [ho] at h1
  obtain ⟨hd, c0, c1, c2, c3, c4, c5, c6, fz⟩ := h1.cells
  have f1 := fz 1
  have hi0 : (0 : Int) ≤ (i : Int) := Int.natCast_nonneg _
  have hi1 : (i : Int) < (n : Int) := by omega
  have htz : (⟨t.toArray⟩ : ByteArray).size = 64 := by simp [ByteArray.size, ht]
  have HA := Lib.hid (Gr.one w (.cells #[.int .i64 (i : Int), .string ⟨t.toArray⟩] 92)).below
  have HN := Lib.hid (World.news_of_block (heap_alloc_new w (.cells #[.int .i64 (i : Int), .string ⟨t.toArray⟩] 92)))
  obtain ⟨i92, hi92, ha92, hb92, hc92⟩ := info_parts info92
  clear h h1 h2 h3 h4 h5 h6 ho ht fz
  go_enter Tryz.func84, Tryz.ntmps84
  go_wp2_with (at_builtin; refine wpList_append_lies _ rfl (.tmp 34) (.tmp 38) 77 rfl 0 92 i92 _ 2 24 Tryz.underlying77 hi92 ha92 hb92 hc92 rfl (by decide) qv D.pend.length (flatR D.pend) rfl (own_below HM.out.2.2.1 HA.out) ⟨w.heap.size, 0, none⟩ 1 1 (flatR [(i, t)]) rfl rfl (by intro j u hu; exact HN.out j u (by simpa [flatR] using hu)) (by intro u hu; simp [flatR] at hu; rcases hu with h | h <;> subst h <;> rfl) (by decide) (by unfold maxLen; omega) (by omega) (by omega) _ rfl ?_)
  intro g cap5 w5 ho5 hg5 hl5 hm5
  have y1 : w5.cell? ⟨d, 1, none⟩ = some qv := by
    rw [hg5.cell_far ⟨d, 1, none⟩ (by simp; omega) (fun e => HQT.out _ e.symm rfl)]
    exact (HA.out.cell (p := ⟨d, 1, none⟩) hd).trans c1
  have yf : w5.frozen? ⟨d, 1, none⟩ = false := by
    rw [hg5.frozen_far ⟨d, 1, none⟩ (by simp; omega) (fun e => HQT.out _ e.symm rfl)]
    exact (HA.out.frozen (p := ⟨d, 1, none⟩) hd).trans f1
  have hd5 : d < w5.heap.size := by have := hg5.size; simp at this; omega
  have HD5 := Lib.hid (rwrite_dat H.out HM.out.1 HM.out.2.1 HM.out.2.2.1 HM.out.2.2.2.1 HM.out.2.2.2.2.1 HM.out.2.2.2.2.2 HA.out ho5 hg5 (by simpa using hl5) hi HT.out)
  clear ho5 hg5 hl5 hm5 c0 c1 c2 c3 c4 c5 c6 f1
  go_wp2_with fail
  refine (rcount_any _ _ d n _ HD5.out.1).mono ?_
  rintro e w6 ⟨rfl, hb, ho⟩
  have e1 : D.write i t = PD.count { D with pend := D.pend ++ [(i, t)] } := by unfold PD.write; rw [HO.out]; simp
  have HE := Lib.hid e1
  have HB6 := Lib.hid hb
  have HO6 := Lib.hid ho
  clear e1 hb ho
  go_wp2_with fail
  go_ret
  rw [HE.out]
  exact ⟨rfl, _, HB6.out, HD5.out.2.trans (Stp.same HO6.out)⟩
theorem rwrite_any (w : World) (F : Nat → Prop) (d n : Nat) (D : PD) (i : Nat) (t : List UInt8) (h : RAt w F d n D) (hi : i < n) (ht : t.length = 64) (hm : D.pend.length ≤ 10000) :
    Calls Tryz.prog 84 #[.pointer (some ⟨d, 0, none⟩), .int .i64 i, .string ⟨t.toArray⟩] w fun e w' => e = .returned (.int .i64 (D.write i t).2) ∧ ∃ F', RAt w' F' d n (D.write i t).1 ∧ Stp F w F' w' := by
  by_cases ho : D.off = true
  · refine (rwrite_off w F d n D i t h ho).mono ?_
    rintro e w' ⟨rfl, rfl⟩
    have e1 : D.write i t = (D, 21) := by unfold PD.write; rw [if_pos ho]
    rw [e1]
    exact ⟨rfl, F, h, Stp.refl F w⟩
  · exact rwrite_on w F d n D i t h (by simpa using ho) hi ht hm
set_option maxHeartbeats 4000000 in
set_option maxRecDepth 100000 in
theorem rsync_off (w : World) (F : Nat → Prop) (d n : Nat) (D : PD) (h : RAt w F d n D) (ho : D.off = true) :
    Calls Tryz.prog 85 #[.pointer (some ⟨d, 0, none⟩)] w fun e w' => e = .returned (.int .i64 21) ∧ w = w' := by
  obtain ⟨sb, cap, qv, armed, a, x, y, h1, h2, h3, h4, h5, h6⟩ := h.mem
  rw [ho] at h1
  obtain ⟨hd, c0, c1, c2, c3, c4, c5, c6, fz⟩ := h1.cells
  clear h h1 h2 h3 h4 h5 h6 ho fz
  go_enter Tryz.func85, Tryz.ntmps85
  go_wp2_with fail
  go_ret
  exact ⟨rfl, rfl⟩
set_option maxHeartbeats 4000000 in
set_option maxRecDepth 100000 in
theorem rsync_cut (w : World) (F : Nat → Prop) (d n : Nat) (D : PD) (h : RAt w F d n D) (ho : D.off = false) (hc : D.count.2 = 21) :
    Calls Tryz.prog 85 #[.pointer (some ⟨d, 0, none⟩)] w fun e w' => e = .returned (.int .i64 21) ∧ RAt w' F d n D.count.1 ∧ Out F w w' := by
  have HC := rcount_any w F d n D h
  rw [hc] at HC
  replace HC := Lib.hid HC
  obtain ⟨sb, cap, qv, armed, a, x, y, h1, h2, h3, h4, h5, h6⟩ := h.mem
  rw [ho] at h1
  obtain ⟨hd, c0, c1, c2, c3, c4, c5, c6, fz⟩ := h1.cells
  clear h h1 h2 h3 h4 h5 h6 ho fz hc
  go_enter Tryz.func85, Tryz.ntmps85
  go_wp2_with fail
  refine HC.out.mono ?_
  rintro e w1 ⟨rfl, hb, ho⟩
  have HB := Lib.hid (And.intro hb ho)
  clear hb ho HC
  go_wp2_with fail
  go_ret
  exact ⟨rfl, HB.out⟩
set_option maxHeartbeats 4000000 in
set_option maxRecDepth 100000 in
theorem rsync_on (w : World) (F : Nat → Prop) (d n : Nat) (D : PD) (h : RAt w F d n D) (ho : D.off = false) (hc : D.count.2 = 0) :
    Calls Tryz.prog 85 #[.pointer (some ⟨d, 0, none⟩)] w fun e w' => e = .returned (.int .i64 0) ∧ RAt w' F d n { D.count.1 with ss := settleS D.count.1.ss D.count.1.pend, pend := [] } ∧ Out F w w' := by
  have HC := rcount_any w F d n D h
  rw [hc] at HC
  replace HC := Lib.hid HC
  have HO := Lib.hid (count_off D hc)
  have HF := Lib.hid ho
  obtain ⟨sb, cap, qv, armed, a, x, y, h1, h2, h3, h4, h5, h6⟩ := h.mem
  rw [ho] at h1
  obtain ⟨hd, c0, c1, c2, c3, c4, c5, c6, fz⟩ := h1.cells
  clear h h1 h2 h3 h4 h5 h6 ho fz hc
  go_enter Tryz.func85, Tryz.ntmps85
  go_wp2_with fail
  refine HC.out.mono ?_
  rintro e w1 ⟨rfl, hb, ho⟩
  have HB := Lib.hid (And.intro hb ho)
  clear ho HC c0 c1 c2 c3 c4 c5 c6
  obtain ⟨sb, cap, qv, armed, a, x, y, h1, h2, h3, h4, h5, h6⟩ := hb.mem
  have e0 : D.count.1.off = false := by rw [HO.out.1]; exact HF.out
  obtain ⟨qa, c, rfl, hlc, hcm, _⟩ := queue_r h3
  have HQ := Lib.hid (rsettle_any w1 d sb n cap D.count.1.pend.length _ _ armed a x y D.count.1.ss D.count.1.pend h1 h2 hb.vd.sec hb.vd.whole h3 (Nat.le_refl _))
  rw [List.take_length] at HQ
  have HM := Lib.hid (And.intro h1 (And.intro h2 (And.intro h3 (And.intro h4 (And.intro h5 h6)))))
  rw [e0] at h1
  obtain ⟨hd, c0, c1, c2, c3, c4, c5, c6, fz⟩ := h1.cells
  have HE0 := Lib.hid e0
  clear h1 h2 h3 h4 h5 h6 fz e0 hb
  go_wp2_with fail
  refine HQ.out.mono ?_
  rintro e w2 ⟨rfl, g1, g2⟩
  have G1 := Lib.hid g1
  have G2 := Lib.hid g2
  obtain ⟨cur, htag⟩ := HM.out.2.1.tag
  have HB2 : Hid (RB w2 d sb n cap (.slice qa D.count.1.pend.length c) (!D.count.1.off) armed a x y) := Lib.hid (g2.heap HM.out.1 (tag_ne HM.out.1 htag (by decide)))
  obtain ⟨hd2, d0, d1, d2, d3, d4, d5, d6, fz⟩ := HB2.out.cells
  have f1 := fz 1
  clear g1 g2 HQ c0 c1 c2 c3 c4 c5 c6 fz htag
  go_wp2_with fail
  go_ret
  have o1 : Out (· = d) w2 (w2.setCell ⟨d, 1, none⟩ (.slice none 0 0)) := Out.set w2 (a := ⟨d, 1, none⟩) _ rfl
  have oF : Out F w1 (w2.setCell ⟨d, 1, none⟩ (.slice none 0 0)) := (G2.out.mono (fun k _ e => by rw [e]; exact HM.out.2.2.2.2.1)).trans (o1.mono (G := F) (fun k _ e => by rw [e]; exact HB.out.1.fd)) (fun _ e => Or.inl e)
  obtain ⟨cur2, htag2⟩ := G1.out.tag
  exact ⟨rfl, ⟨⟨HB.out.1.vd.sec.settle HB.out.1.vd.whole.le, by simp [Whole], HB.out.1.vd.al⟩, HB.out.1.n4, fun k hk => Nat.lt_of_lt_of_le (HB.out.1.lt k hk) oF.size, HB.out.1.fd, sb, cap, .slice none 0 0, armed, a, x, y, HB2.out.set1 _, G1.out.out o1 (tag_ne htag2 HB2.out (by decide)), World.ownsRow_nil _ _ _ _, HM.out.2.2.2.1, HM.out.2.2.2.2.1, by simp [Value.ownBlock]⟩, HB.out.2.trans oF (fun _ e => Or.inl e)⟩
theorem rsync_any (w : World) (F : Nat → Prop) (d n : Nat) (D : PD) (h : RAt w F d n D) :
    Calls Tryz.prog 85 #[.pointer (some ⟨d, 0, none⟩)] w fun e w' => e = .returned (.int .i64 D.sync.2) ∧ RAt w' F d n D.sync.1 ∧ Out F w w' := by
  by_cases ho : D.off = true
  · refine (rsync_off w F d n D h ho).mono ?_
    rintro e w' ⟨rfl, rfl⟩
    have e1 : D.sync = (D, 21) := by unfold PD.sync; rw [if_pos ho]
    rw [e1]
    exact ⟨rfl, h, Out.refl F w⟩
  · have ho : D.off = false := by simpa using ho
    rcases count_cases D with hc | hc
    · have e1 : D.sync = ({ D.count.1 with ss := settleS D.count.1.ss D.count.1.pend, pend := [] }, 0) := by unfold PD.sync; rw [ho]; simp [hc]
      rw [e1]
      exact rsync_on w F d n D h ho hc
    · have e1 : D.sync = D.count := by unfold PD.sync; rw [ho]; simp [hc]
      rw [e1, hc]
      exact rsync_cut w F d n D h ho hc
set_option maxHeartbeats 2000000 in
set_option maxRecDepth 100000 in
theorem rstart_blk (w : World) (d sb n cap : Nat) (qv : Value) (on armed : Bool) (a x y : Int) (h : RB w d sb n cap qv on armed a x y) :
    Calls Tryz.prog 23 #[.pointer (some ⟨d, 0, none⟩)] w fun e w' => e = .returned (.tuple #[]) ∧ RB w' d sb n cap qv true false a x y ∧ Out (· = d) w w' := by
  have H := Lib.hid h
  obtain ⟨hd, c0, c1, c2, c3, c4, c5, c6, fz⟩ := h.cells
  have f2 := fz 2
  have f3 := fz 3
  clear h fz
  go_enter Tryz.func23, Tryz.ntmps23
  go_wp2_with fail
  go_end0
  exact ⟨rfl, (H.out.set2 true).set3 false, (Out.set (F := (· = d)) w (a := ⟨d, 2, none⟩) _ rfl).trans (Out.set (F := (· = d)) _ (a := ⟨d, 3, none⟩) _ rfl) (fun _ e => Or.inl e)⟩
theorem rstart_any (w : World) (F : Nat → Prop) (d n : Nat) (D : PD) (h : RAt w F d n D) :
    Calls Tryz.prog 23 #[.pointer (some ⟨d, 0, none⟩)] w fun e w' => e = .returned (.tuple #[]) ∧ RAt w' F d n D.start ∧ Out F w w' := by
  obtain ⟨sb, cap, qv, armed, a, x, y, h1, h2, h3, h4, h5, h6⟩ := h.mem
  refine (rstart_blk w d sb n cap qv _ armed a x y h1).mono ?_
  rintro e w' ⟨rfl, g1, g2⟩
  have oF : Out F w w' := g2.mono (fun k _ e => by rw [e]; exact h.fd)
  obtain ⟨cur, htag⟩ := h2.tag
  exact ⟨rfl, ⟨⟨h.vd.sec, h.vd.whole, by simp [PD.start]⟩, h.n4, fun k hk => Nat.lt_of_lt_of_le (h.lt k hk) oF.size, h.fd, sb, cap, qv, false, a, x, y, g1, h2.out g2 (tag_ne htag h1 (by decide)), g2.own h3 (row_tag h3 h1 (by decide)), rfl, h5, h6⟩, oF⟩
set_option maxHeartbeats 2000000 in
set_option maxRecDepth 100000 in
theorem rarm_off (w : World) (d sb n cap : Nat) (qv : Value) (armed : Bool) (a x y p q r : Int) (h : RB w d sb n cap qv false armed a x y) :
    Calls Tryz.prog 25 #[.pointer (some ⟨d, 0, none⟩), .int .i64 p, .int .i64 q, .int .i64 r] w fun e w' => e = .returned (.tuple #[]) ∧ w = w' := by
  obtain ⟨hd, c0, c1, c2, c3, c4, c5, c6, fz⟩ := h.cells
  clear h fz
  go_enter Tryz.func25, Tryz.ntmps25
  go_wp2_with fail
  exact bodyPost_ret (v := .tuple #[]) (by simp [results, Tryz.results25, go_sem]) rfl ⟨rfl, rfl⟩
set_option maxHeartbeats 2000000 in
set_option maxRecDepth 100000 in
theorem rarm_on (w : World) (d sb n cap : Nat) (qv : Value) (armed : Bool) (a x y p q r : Int) (b : Bool) (h : RB w d sb n cap qv true armed a x y) (hb : decide (0 ≤ p) = b) :
    Calls Tryz.prog 25 #[.pointer (some ⟨d, 0, none⟩), .int .i64 p, .int .i64 q, .int .i64 r] w fun e w' => e = .returned (.tuple #[]) ∧ RB w' d sb n cap qv true b p q r ∧ Out (· = d) w w' := by
  have H := Lib.hid h
  obtain ⟨hd, c0, c1, c2, c3, c4, c5, c6, fz⟩ := h.cells
  have f3 := fz 3
  have f4 := fz 4
  have f5 := fz 5
  have f6 := fz 6
  clear h fz
  go_enter Tryz.func25, Tryz.ntmps25
  go_wp2_with fail
  go_end0
  exact ⟨rfl, (((H.out.set3 b).set4 p).set5 q).set6 r, (((Out.set (F := (· = d)) w (a := ⟨d, 3, none⟩) _ rfl).trans (Out.set (F := (· = d)) _ (a := ⟨d, 4, none⟩) _ rfl) (fun _ e => Or.inl e)).trans (Out.set (F := (· = d)) _ (a := ⟨d, 5, none⟩) _ rfl) (fun _ e => Or.inl e)).trans (Out.set (F := (· = d)) _ (a := ⟨d, 6, none⟩) _ rfl) (fun _ e => Or.inl e)⟩
theorem rarm_any (w : World) (F : Nat → Prop) (d n : Nat) (D : PD) (p q r : Int) (h : RAt w F d n D) (hp : p ≤ 9223372036854775807) :
    Calls Tryz.prog 25 #[.pointer (some ⟨d, 0, none⟩), .int .i64 p, .int .i64 q, .int .i64 r] w fun e w' => e = .returned (.tuple #[]) ∧ RAt w' F d n (D.arm p q r) ∧ Out F w w' := by
  obtain ⟨sb, cap, qv, armed, a, x, y, h1, h2, h3, h4, h5, h6⟩ := h.mem
  by_cases ho : D.off = true
  · rw [ho] at h1
    refine (rarm_off w d sb n cap qv armed a x y p q r h1).mono ?_
    rintro e w' ⟨rfl, rfl⟩
    have e1 : D.arm p q r = D := by unfold PD.arm; rw [if_pos ho]
    rw [e1]
    exact ⟨rfl, h, Out.refl F w⟩
  · have ho : D.off = false := by simpa using ho
    rw [ho] at h1
    refine (rarm_on w d sb n cap qv armed a x y p q r _ h1 rfl).mono ?_
    rintro e w' ⟨rfl, g1, g2⟩
    have oF : Out F w w' := g2.mono (fun k _ e => by rw [e]; exact h.fd)
    obtain ⟨cur, htag⟩ := h2.tag
    have e1 : D.arm p q r = { D with alarm := if 0 ≤ p then some (p, q, r) else none } := by unfold PD.arm; rw [ho]; simp
    rw [e1]
    refine ⟨rfl, ⟨⟨h.vd.sec, h.vd.whole, ?_⟩, h.n4, fun k hk => Nat.lt_of_lt_of_le (h.lt k hk) oF.size, h.fd, sb, cap, qv, decide (0 ≤ p), p, q, r, by simp only [ho]; exact g1, h2.out g2 (tag_ne htag h1 (by decide)), g2.own h3 (row_tag h3 h1 (by decide)), ?_, h5, h6⟩, oF⟩
    · intro a' b' c' e
      by_cases hz : 0 ≤ p
      · simp [hz] at e; omega
      · simp [hz] at e
    · by_cases hz : 0 ≤ p
      · simp [ArmR, hz]
      · simp [ArmR, hz]
set_option maxHeartbeats 2000000 in
set_option maxRecDepth 100000 in
theorem rread_off (w : World) (F : Nat → Prop) (d n : Nat) (D : PD) (i : Nat) (h : RAt w F d n D) (ho : D.off = true) :
    Calls Tryz.prog 54 #[.pointer (some ⟨d, 0, none⟩), .int .i64 i] w fun e w' => e = .returned (.tuple #[.string ⟨#[]⟩, .int .i64 21]) ∧ w = w' := by
  obtain ⟨sb, cap, qv, armed, a, x, y, h1, h2, h3, h4, h5, h6⟩ := h.mem
  rw [ho] at h1
  obtain ⟨hd, c0, c1, c2, c3, c4, c5, c6, fz⟩ := h1.cells
  clear h h1 h2 h3 h4 h5 h6 ho fz
  go_enter Tryz.func54, Tryz.ntmps54
  go_wp2_with fail
  go_ret2
  exact ⟨rfl, rfl⟩
set_option maxHeartbeats 2000000 in
set_option maxRecDepth 100000 in
theorem rread_no (w : World) (F : Nat → Prop) (d n : Nat) (D : PD) (i : Nat) (h : RAt w F d n D) (ho : D.off = false) (hi : n ≤ i) :
    Calls Tryz.prog 54 #[.pointer (some ⟨d, 0, none⟩), .int .i64 i] w fun e w' => e = .returned (.tuple #[.string ⟨#[]⟩, .int .i64 1]) ∧ w = w' := by
  obtain ⟨sb, cap, qv, armed, a, x, y, h1, h2, h3, h4, h5, h6⟩ := h.mem
  rw [ho] at h1
  obtain ⟨hd, c0, c1, c2, c3, c4, c5, c6, fz⟩ := h1.cells
  have hi0 : (0 : Int) ≤ (i : Int) := Int.natCast_nonneg _
  have hi1 : (n : Int) ≤ (i : Int) := by omega
  clear h h1 h2 h3 h4 h5 h6 ho fz
  go_enter Tryz.func54, Tryz.ntmps54
  go_wp2_with fail
  go_ret2
  exact ⟨rfl, rfl⟩
theorem rd_step {n i k : Nat} {S : List (List UInt8)} {l : List (Nat × List UInt8)} (hS : Sec n S) (hl : Whole n l) (hk : k < l.length) : (settleS S (l.take (k + 1))).getD i [] = if l[k].1 = i then l[k].2 else (settleS S (l.take k)).getD i [] := by
  obtain ⟨h1, h2⟩ := hl l[k] (List.getElem_mem hk)
  rw [settle_take hk]
  by_cases e : l[k].1 = i
  · rw [if_pos e, ← e]
    exact put_own' (hS.settle (hl.take k).le) h1 h2
  · rw [if_neg e]
    exact put_far (fun x => e x.symm)
set_option maxHeartbeats 4000000 in
set_option maxRecDepth 100000 in
theorem rread_yes (w : World) (F : Nat → Prop) (d n : Nat) (D : PD) (i : Nat) (h : RAt w F d n D) (ho : D.off = false) (hi : i < n) (hm : D.pend.length ≤ 100000) :
    Calls Tryz.prog 54 #[.pointer (some ⟨d, 0, none⟩), .int .i64 i] w fun e w' => e = .returned (.tuple #[.string ⟨(D.rd i).toArray⟩, .int .i64 0]) ∧ w = w' := by
  obtain ⟨sb, cap, qv, armed, a, x, y, h1, h2, h3, h4, h5, h6⟩ := h.mem
  rw [ho] at h1
  obtain ⟨hd, c0, c1, c2, c3, c4, c5, c6, fz⟩ := h1.cells
  have sc := h2.cell hi
  obtain ⟨hnc, hcm⟩ := h2.cap
  obtain ⟨cur, htag⟩ := h2.tag
  have hsb := heap_lt htag
  obtain ⟨qa, qc, rfl, hqc, hqm, hqr⟩ := queue_r h3
  have HQ := Lib.hid hqr
  have HV := Lib.hid h.vd
  have hi0 : (0 : Int) ≤ (i : Int) := Int.natCast_nonneg _
  have hi1 : (i : Int) < (n : Int) := by omega
  have HRD : Hid (D.rd i = (settleS D.ss (D.pend.take D.pend.length)).getD i []) := Lib.hid (by rw [List.take_length]; rfl)
  have H0 : Hid (D.ss.getD i [] = (settleS D.ss (D.pend.take 0)).getD i []) := Lib.hid rfl
  clear h h1 h2 h3 h4 h5 h6 ho fz hqr htag
  generalize D.ss.getD i [] = s0 at *
  generalize D.rd i = R at *
  go_enter Tryz.func54, Tryz.ntmps54
  go_wp2_with fail
  go_loop [6, 7] (fun s j => ∃ (k : Nat) (t : List UInt8), k ≤ D.pend.length ∧ s = .string ⟨t.toArray⟩ ∧ j = .int .i64 k ∧ Hid (t = (settleS D.ss (D.pend.take k)).getD i [])) (fun _ j => D.pend.length - (intOf j).toNat)
  case atStart => exact ⟨0, s0, by omega, rfl, rfl, H0⟩
  case round =>
    obtain ⟨k, t, hk, rfl, rfl, HT⟩ := hrel
    have hk0 : (0 : Int) ≤ (k : Int) := Int.natCast_nonneg _
    by_cases hlt : k < D.pend.length
    · obtain ⟨q, cs, rfl, hh, q0, q1⟩ := HQ.out k hlt
      have r0 := cell_at hh q0
      have r1 := cell_at hh q1
      have hql := heap_lt hh
      have hk1 : (k : Int) < (D.pend.length : Int) := by omega
      have HS := Lib.hid (rd_step (i := i) HV.out.sec HV.out.whole hlt)
      clear hh q0 q1
      by_cases he : D.pend[k].1 = i
      · have HN := Lib.hid (show D.pend[k].2 = (settleS D.ss (D.pend.take (k + 1))).getD i [] by rw [HS.out, if_pos he])
        have b0 : ((D.pend[k].1 : Int) == (i : Int)) = true := by rw [beq_iff_eq]; omega
        generalize D.pend[k].2 = u at *
        generalize D.pend[k].1 = v at *
        clear HS
        go_wp2_with fail
        go_round
        case rel => exact ⟨k + 1, u, by omega, rfl, by go_num, HN⟩
        case measure => simp [intOf]; omega
      · have HN := Lib.hid (show t = (settleS D.ss (D.pend.take (k + 1))).getD i [] by rw [HS.out, if_neg he]; exact HT.out)
        have b0 : ((D.pend[k].1 : Int) == (i : Int)) = false := by rw [beq_eq_false_iff_ne]; omega
        generalize D.pend[k].2 = u at *
        generalize D.pend[k].1 = v at *
        clear HS
        go_wp2_with fail
        go_round
        case rel => exact ⟨k + 1, t, by omega, rfl, by go_num, HN⟩
        case measure => simp [intOf]; omega
    · obtain rfl : k = D.pend.length := by omega
      go_wp2_with fail
      go_ret2
      exact ⟨by rw [HRD.out, ← HT.out]; rfl, rfl⟩
end Go.Proofs.YtihoomlaggihlaaGreatDoor

namespace Go.Proofs.YtihoomlaggihlaaGreatDoor
open Go.RowKit

theorem own_low {w : World} {base B e size n : Nat} {v : Value} {xs : List Value} (h : w.ownsRow base e size v n xs) (hB : B ≤ base) : w.ownsRow B e size v n xs := by
  refine ⟨h.1, ?_⟩
  rcases h.2 with k | ⟨g, cap, cur, k1, k2, k3⟩
  · exact Or.inl k
  · exact Or.inr ⟨g, cap, cur, k1, Nat.le_trans hB k2, k3⟩
set_option maxHeartbeats 2000000 in
set_option maxRecDepth 100000 in
theorem rz_any (w : World) (n : Nat) (hn : n ≤ 100000) :
    Calls Tryz.prog 53 #[.int .i64 n] w fun e w' => e = .returned (.string ⟨(List.replicate n (0 : UInt8)).toArray⟩) ∧ w = w' := by
  have hn0 : (0 : Int) ≤ (n : Int) := Int.natCast_nonneg _
  go_enter Tryz.func53, Tryz.ntmps53
  go_wp2_with fail
  go_loop [3, 4] (fun s i => ∃ (k : Nat) (T : List UInt8), k ≤ n ∧ T = List.replicate k 0 ∧ s = .string ⟨T.toArray⟩ ∧ i = .int .i64 k) (fun _ i => n - (intOf i).toNat)
  case atStart => exact ⟨0, [], by omega, rfl, rfl, rfl⟩
  case round =>
    obtain ⟨k, T, hk, hT, rfl, rfl⟩ := hrel
    have HT := Lib.hid hT
    have hk0 : (0 : Int) ≤ (k : Int) := Int.natCast_nonneg _
    have hz : (⟨T.toArray⟩ : ByteArray).size = k := by simp [ByteArray.size, hT]
    have hst : (⟨T.toArray⟩ : ByteArray) ++ ⟨#[0]⟩ = ⟨(T ++ [0]).toArray⟩ := by apply ByteArray.ext; simp
    clear hT
    by_cases hlt : k < n
    · have hk1 : (k : Int) < (n : Int) := by omega
      go_wp2_with fail
      go_round
      case rel => exact ⟨k + 1, T ++ [0], by omega, by rw [HT.out, List.replicate_succ'], by first | rfl | rw [hst], by go_num⟩
      case measure => simp [intOf]; omega
    · obtain rfl : k = n := by omega
      go_wp2_with fail
      go_ret
      have e : Array.replicate k (0 : UInt8) = T.toArray := by rw [HT.out]; simp
      exact ⟨by first | (rw [e]; rfl) | (rw [← HT.out]; rfl), rfl⟩
set_option maxHeartbeats 4000000 in
set_option maxRecDepth 100000 in
theorem rnew_no (w : World) (s : Int) (hs : s < 1 ∨ 4000 < s) :
    Calls Tryz.prog 16 #[.int .i64 s] w fun e w' => e = .returned (.pointer none) ∧ w = w' := by
  rcases hs with hs | hs
  · go_enter Tryz.func16, Tryz.ntmps16
    go_wp2_with fail
    go_ret
    exact ⟨rfl, rfl⟩
  · have h1 : decide (s < 1) = false := by simp; omega
    have h2 : ¬ s < 1 := by omega
    go_enter Tryz.func16, Tryz.ntmps16
    go_wp2_with fail
    go_ret
    exact ⟨rfl, rfl⟩
/-- a new disk half made -/
structure NewR (d k : Nat) (sv : Value) (wo w : World) : Prop where
  blk : w.heap[d]? = some (.cells #[sv, .slice none 0 0, .bool true, .bool false, .int .i64 0, .int .i64 0, .int .i64 0] 79 (0, 0))
  row : w.ownsRow wo.heap.size 9 1 sv k (strs (List.replicate k zeroT))
  bel : Below wo.heap.size wo w
theorem NewR.step {d k : Nat} {sv v' : Value} {wo w w3 : World} (h : NewR d k sv wo w) (hd : wo.heap.size ≤ d) (ho : w3.ownsRow wo.heap.size 9 1 v' (k + 1) (strs (List.replicate k zeroT) ++ strs [zeroT])) (hg : (w.alloc (.cells #[.string ⟨zeroT.toArray⟩] 9)).grownBy w3 sv.ownBlock) : NewR d (k + 1) v' wo (w3.setCell ⟨d, 0, none⟩ v') ∧ w3.cell? ⟨d, 0, none⟩ = some sv ∧ w3.frozen? ⟨d, 0, none⟩ = false ∧ d < w3.heap.size := by
  have B := (Gr.one w (.cells #[.string ⟨zeroT.toArray⟩] 9)).below
  have b1 := (B.block _ (heap_lt h.blk)).trans h.blk
  have r1 := own_below h.row B
  have c1 : w3.heap[d]? = some (.cells #[sv, .slice none 0 0, .bool true, .bool false, .int .i64 0, .int .i64 0, .int .i64 0] 79 (0, 0)) := grown_heap hg b1 (own_tag r1 b1 (by decide))
  have hz := h.bel.size
  have B3 : Below wo.heap.size wo w3 := (h.bel.trans (B.mono hz)).grown hg (Nat.le_trans hz B.size) (fun k hk => (h.row.lt k hk).1)
  have o1 : Out (· = d) w3 (w3.setCell ⟨d, 0, none⟩ v') := Out.set w3 (a := ⟨d, 0, none⟩) _ rfl
  refine ⟨⟨?_, ?_, ?_⟩, cell_at c1 rfl, frozen_at c1 0, heap_lt c1⟩
  · have k := heap_setCell_same w3 d 0 _ _ v' c1
    simpa using k
  · have e : strs (List.replicate (k + 1) zeroT) = strs (List.replicate k zeroT) ++ strs [zeroT] := by rw [← strs_app, List.replicate_succ']
    rw [e]
    exact o1.own ho (row_tag ho c1 (by decide))
  · exact B3.trans (o1.below B3.size (fun k e => by rw [e]; exact hd))
set_option maxHeartbeats 4000000 in
set_option maxRecDepth 100000 in
theorem rnew_yes (w : World) (n : Nat) (h1 : 1 ≤ n) (h2 : n ≤ 4000) :
    Calls Tryz.prog 16 #[.int .i64 n] w fun e w' => ∃ d F, e = .returned (.pointer (some ⟨d, 0, none⟩)) ∧ RAt w' F d n (newD n) ∧ Below w.heap.size w w' ∧ ∀ k, F k → w.heap.size ≤ k := by
  have g1 : (1 : Int) ≤ (n : Int) := by omega
  have g2 : (n : Int) ≤ 4000 := by omega
  have HZ := Lib.hid (fun W => rz_any W 64 (by omega))
  rw [show List.replicate 64 (0 : UInt8) = zeroT from rfl] at HZ
  have H1 := Lib.hid h1
  have H2 := Lib.hid h2
  obtain ⟨i9, hi9, ha9, hb9, hc9⟩ := info_parts info9
  have M0 : Hid (NewR w.heap.size 0 (.slice none 0 0) w (w.alloc (.cells #[.slice none 0 0, .slice none 0 0, .bool true, .bool false, .int .i64 0, .int .i64 0, .int .i64 0] 79))) := Lib.hid ⟨heap_alloc_new w _, World.ownsRow_nil _ _ _ _, (Gr.one w _).below⟩
  clear h1 h2
  go_enter Tryz.func16, Tryz.ntmps16
  go_wp2_with fail
  refine (HZ.out _).mono ?_
  rintro e w1 ⟨rfl, rfl⟩
  clear HZ
  go_wp2_with fail
  generalize w.alloc (.cells #[.slice none 0 0, .slice none 0 0, .bool true, .bool false, .int .i64 0, .int .i64 0, .int .i64 0] 79) = w1 at *
  obtain ⟨wo, rfl⟩ : ∃ wo : World, wo = w := ⟨_, rfl⟩
  go_loopw [5] (fun i wr => ∃ (k : Nat) (sv : Value), k ≤ n ∧ i = .int .i64 k ∧ Hid (NewR wo.heap.size k sv wo wr)) (fun i _ => n - (intOf i).toNat)
  case atStart => exact ⟨0, _, by omega, rfl, M0⟩
  case round =>
    clear M0
    obtain ⟨k, sv, hk, rfl, M⟩ := hrel
    have hk0 : (0 : Int) ≤ (k : Int) := Int.natCast_nonneg _
    have hz : wo.heap.size ≤ wr.heap.size := M.out.bel.size
    by_cases hlt : k < n
    · have hk1 : (k : Int) < (n : Int) := by omega
      have c0 : wr.cell? ⟨wo.heap.size, 0, none⟩ = some sv := cell_at M.out.blk rfl
      have hdl := heap_lt M.out.blk
      have HO := Lib.hid (own_below M.out.row (Gr.one wr (.cells #[.string ⟨zeroT.toArray⟩] 9)).below)
      have HST := Lib.hid (fun v' w3 => M.out.step (v' := v') (w3 := w3) (Nat.le_refl _))
      generalize zeroT = z at *
      go_wp2_with (at_builtin; refine wpList_append_lies _ rfl (.tmp 24) (.tmp 26) 26 rfl wo.heap.size 9 i9 _ 1 16 Tryz.underlying26 hi9 ha9 hb9 hc9 rfl (by decide) _ k (strs (List.replicate k z)) rfl HO.out ⟨wr.heap.size, 0, none⟩ 1 1 (strs [z]) rfl rfl (news_one _ _ _) (strs_one _) (by decide) (by unfold maxLen; omega) (by omega) (by simp; omega) _ rfl ?_)
      intro g cap5 w3 ho3 hg3 _ _
      obtain ⟨hm, y0, yf, hd3⟩ := HST.out _ w3 ho3 hg3
      have M2 := Lib.hid hm
      clear ho3 hg3 HST HO hm c0
      go_wp2_with fail
      go_roundw
      case rel => exact ⟨k + 1, _, by omega, by go_num, M2⟩
      case measure => simp [intOf]; omega
    · obtain rfl : k = n := by omega
      go_wp2_with fail
      go_ret
      obtain ⟨sb, cap, rfl, _, hsl⟩ := M.out.row.form (by have := H1.out; omega)
      have hb := (M.out.row.lt sb rfl).1
      refine ⟨_, fun x => x = wo.heap.size ∨ x = sb, rfl, ⟨⟨newD_sec k, by simp [Whole, newD], by simp [newD]⟩, H2.out, fun x hx => ?_, Or.inl rfl, sb, cap, .slice none 0 0, false, 0, 0, 0, M.out.blk, own_low M.out.row (Nat.zero_le _), World.ownsRow_nil _ _ _ _, rfl, Or.inr rfl, by simp [Value.ownBlock]⟩, M.out.bel, fun x hx => ?_⟩
      · rcases hx with rfl | rfl
        · exact heap_lt M.out.blk
        · exact hsl
      · rcases hx with rfl | rfl
        · exact Nat.le_refl _
        · exact hb
set_option maxHeartbeats 4000000 in
set_option maxRecDepth 100000 in
theorem rrot_not (w : World) (F : Nat → Prop) (d n : Nat) (i a m : Int) (D : PD) (h : RAt w F d n D) (hc : ¬ (0 ≤ i ∧ i < (n : Int) ∧ 0 ≤ a ∧ a < 64 ∧ 0 < m ∧ m < 256)) :
    Calls Tryz.prog 27 #[.pointer (some ⟨d, 0, none⟩), .int .i64 i, .int .i64 a, .int .i64 m] w fun e w' => e = .returned (.tuple #[]) ∧ w = w' := by
  obtain ⟨sb, cap, qv, armed, a', x, y, h1, h2, h3, h4, h5, h6⟩ := h.mem
  obtain ⟨hd, c0, _, _, _, _, _, _, _⟩ := h1.cells
  clear h h1 h2 h3 h4 h5 h6
  rcases (show i < 0 ∨ (0 ≤ i ∧ (n : Int) ≤ i) ∨ (0 ≤ i ∧ i < (n : Int) ∧ a < 0) ∨ (0 ≤ i ∧ i < (n : Int) ∧ 0 ≤ a ∧ 64 ≤ a) ∨ (0 ≤ i ∧ i < (n : Int) ∧ 0 ≤ a ∧ a < 64 ∧ m < 1) ∨ (0 ≤ i ∧ i < (n : Int) ∧ 0 ≤ a ∧ a < 64 ∧ 1 ≤ m ∧ 255 < m) by omega) with c | ⟨c1, c2⟩ | ⟨c1, c2, c3⟩ | ⟨c1, c2, c3, c4⟩ | ⟨c1, c2, c3, c4, c5⟩ | ⟨c1, c2, c3, c4, c5, c6⟩
  all_goals (
    clear hc
    go_enter Tryz.func27, Tryz.ntmps27
    go_wp2_with fail
    exact bodyPost_ret (v := .tuple #[]) (by simp [results, Tryz.results27, go_sem]) rfl ⟨rfl, rfl⟩)
theorem rot_str (x : List UInt8) (a : Nat) (v : UInt8) (hx : x.length = 64) (ha : a < 64) : (⟨x.toArray⟩ : ByteArray).extract 0 a ++ ⟨#[v]⟩ ++ (⟨x.toArray⟩ : ByteArray).extract (a + 1) 64 = ⟨(x.set a v).toArray⟩ := by
  have e2 : (⟨x.toArray⟩ : ByteArray).extract (a + 1) 64 = ⟨(x.drop (a + 1)).toArray⟩ := by
    rw [extract_mid, List.take_of_length_le (by rw [List.length_drop]; omega)]
  rw [extract_take, e2, List.set_eq_take_append_cons_drop, if_pos (by omega)]
  apply ByteArray.ext; simp
set_option maxHeartbeats 4000000 in
set_option maxRecDepth 100000 in
theorem rrot_yes (w : World) (F : Nat → Prop) (d n i a m : Nat) (D : PD) (h : RAt w F d n D) (hi : i < n) (ha : a < 64) (hm1 : 0 < m) (hm2 : m < 256) :
    Calls Tryz.prog 27 #[.pointer (some ⟨d, 0, none⟩), .int .i64 i, .int .i64 a, .int .i64 m] w fun e w' => e = .returned (.tuple #[]) ∧ RAt w' F d n (D.rot i a m) ∧ Out F w w' := by
  obtain ⟨sb, cap, qv, armed, a', x, y, h1, h2, h3, h4, h5, h6⟩ := h.mem
  obtain ⟨hd, c0, _, _, _, _, _, _, _⟩ := h1.cells
  have H := Lib.hid h
  have HM := Lib.hid (And.intro h1 (And.intro h2 (And.intro h3 (And.intro h4 (And.intro h5 h6)))))
  obtain ⟨hnc, hcm⟩ := h2.cap
  have sc := h2.cell hi
  obtain ⟨cur, htag⟩ := h2.tag
  have hsb := heap_lt htag
  have hx64 := h.vd.sec.at hi
  have HXI := Lib.hid (show D.ss.getD i [] = D.ss.getD i [] from rfl)
  clear h h1 h2 h3 h4 h5 h6 htag
  generalize hX : D.ss.getD i [] = t at *
  have HX := Lib.hid hX
  clear hX HXI
  have hz : (⟨t.toArray⟩ : ByteArray).size = 64 := by simp only [ByteArray.size, List.size_toArray]; exact hx64
  have a0 : (0 : Int) ≤ (a : Int) := Int.natCast_nonneg _
  have a1 : (a : Int) < 64 := by omega
  have a2 : ¬ (a : Int) < 0 := by omega
  have m0 : ¬ (m : Int) < 1 := by omega
  have m1 : (m : Int) ≤ 255 := by omega
  have m2 : (m : Int) < 256 := by omega
  have m3 : (1 : Int) ≤ (m : Int) := by omega
  have i0 : (0 : Int) ≤ (i : Int) := Int.natCast_nonneg _
  have i1 : (i : Int) < (n : Int) := by omega
  have al : a < t.length := by omega
  obtain ⟨u, hu⟩ : ∃ u : UInt8, ((⟨t.toArray⟩ : ByteArray)[a]'(by rw [hz]; exact ha)) = u := ⟨_, rfl⟩
  go_enter Tryz.func27, Tryz.ntmps27
  go_wp2_with fail
  rw [u8_xor_nat u.toNat m u.toNat_lt hm2, show ((u.toNat ^^^ m : Nat) : Int) = ((u ^^^ UInt8.ofNat m).toNat : Int) by rw [UInt8.toNat_xor, UInt8.toNat_ofNat', Nat.mod_eq_of_lt hm2]]
  have HU := Lib.hid hu
  clear hu
  generalize hv : u ^^^ UInt8.ofNat m = v at *
  have HV := Lib.hid hv
  clear hv
  have HA := Lib.hid (show Below w.heap.size w (w.alloc (.cells #[.int .u8 (v.toNat : Int)] 5)) from (Gr.one w _).below)
  have yA0 : (w.alloc (.cells #[.int .u8 (v.toNat : Int)] 5)).cell? ⟨d, 0, none⟩ = some (.slice (some ⟨sb, 0, none⟩) n cap) := (HA.out.cell (p := ⟨d, 0, none⟩) hd).trans c0
  have yAs : (w.alloc (.cells #[.int .u8 (v.toNat : Int)] 5)).cell? ⟨sb, i, none⟩ = some (.string ⟨t.toArray⟩) := (HA.out.cell (p := ⟨sb, i, none⟩) hsb).trans sc
  have yAf : (w.alloc (.cells #[.int .u8 (v.toNat : Int)] 5)).frozen? ⟨sb, i, none⟩ = false := (HA.out.frozen (p := ⟨sb, i, none⟩) hsb).trans (HM.out.2.1.frozen i)
  have hdA : d < (w.alloc (.cells #[.int .u8 (v.toNat : Int)] 5)).heap.size := Nat.lt_of_lt_of_le hd HA.out.size
  have hsA : sb < (w.alloc (.cells #[.int .u8 (v.toNat : Int)] 5)).heap.size := Nat.lt_of_lt_of_le hsb HA.out.size
  have kc := run_convert_bytes_back (P := Tryz.prog) (w.alloc (.cells #[.int .u8 (v.toNat : Int)] 5)).drew 56 9 5 ⟨w.heap.size, 0, none⟩ 1 [v] Tryz.underlying56 Tryz.underlying5 Tryz.underlying9 (fun j hj => by
    have hj0 : j = 0 := by simpa using hj
    subst hj0
    exact cell_at (w := (w.alloc (.cells #[.int .u8 (v.toNat : Int)] 5)).drew) (heap_alloc_new w (.cells #[.int .u8 (v.toNat : Int)] 5)) rfl)
  rw [show [v].length = 1 from rfl] at kc
  generalize w.alloc (.cells #[.int .u8 (v.toNat : Int)] 5) = wa at *
  have a4 : (a : Int) ≤ 64 := by omega
  have a5 : (a : Int) + 1 ≤ 64 := by omega
  have a6 : (0 : Int) ≤ (a : Int) + 1 := by omega
  have a7 : ((a : Int) + 1).toNat = a + 1 := by omega
  have a8 : IntKind.i64.wrap ((a : Int) + 1) = (a : Int) + 1 := IntWalk.i64_in _ (by omega)
  have hcat1 : ¬ 9223372036854775807 < min a 64 + 1 := by omega
  have hcat2 : ¬ 9223372036854775807 < min a 64 + 1 + (64 - (a + 1)) := by omega
  have hcat3 : ¬ 9223372036854775807 < min a 64 + 1 + (63 - a) := by omega
  refine wp_region_still_tail 17 (by decide) (by kernel_rfl) ?_
  simp only [List.take_succ_cons, List.take_zero, List.drop_succ_cons, List.drop_zero]
  change wpStill _ _ (World.drew wa) _ _ _
  repeat still_step
  refine wpStill_nil ?_
  change wpList _ _ _ _ _ (World.drew wa)
  go_wp2_with fail
  go_end0
  rw [rot_str t a v hx64 ha]
  have hta : t.getD a 0 = u := by
    rw [List.getD_eq_getElem?_getD, List.getElem?_eq_getElem al]
    exact HU.out
  have e1 : D.rot i a m = { D with ss := D.ss.set i (t.set a v) } := by
    unfold PD.rot
    have := H.out.vd.sec.1
    rw [if_pos (by omega)]
    simp only [Int.toNat_natCast, HX.out, hta, HV.out]
  have hvd : Vd n { D with ss := D.ss.set i (t.set a v) } := by
    have := H.out.vd.rot i a m
    rwa [e1] at this
  rw [e1]
  have r2 : RS9 wa sb n cap D.ss := own_below HM.out.2.1 HA.out
  have r1 := HM.out.1.keep HA.out
  have r3 := own_below HM.out.2.2.1 HA.out
  obtain ⟨q1, o1⟩ := r2.set i (t.set a v)
  obtain ⟨cur, htag⟩ := r2.tag
  have b1 := (Gr.drewn (wa.setCell ⟨sb, i, none⟩ (.string ⟨(t.set a v).toArray⟩))).below
  have dAt : RAt (wa.setCell ⟨sb, i, none⟩ (.string ⟨(t.set a v).toArray⟩)) F d n { D with ss := D.ss.set i (t.set a v) } :=
    ⟨hvd, H.out.n4, fun k hk => Nat.lt_of_lt_of_le (Nat.lt_of_lt_of_le (H.out.lt k hk) HA.out.size) o1.size, H.out.fd, sb, cap, qv, armed, a', x, y, o1.heap r1 (tag_ne r1 htag (by decide)), q1, o1.own r3 (row_tag r3 htag (by decide)), HM.out.2.2.2.1, HM.out.2.2.2.2.1, HM.out.2.2.2.2.2⟩
  exact ⟨rfl, dAt.below b1, ((Out.of_below (F := F) HA.out).trans (o1.mono (G := F) (fun k _ e => by rw [e]; exact HM.out.2.2.2.2.1)) (fun _ e => Or.inl e)).trans (Out.of_below (F := F) b1) (fun _ e => Or.inl e)⟩
theorem rrot_any (w : World) (F : Nat → Prop) (d n : Nat) (i a m : Int) (D : PD) (h : RAt w F d n D) :
    Calls Tryz.prog 27 #[.pointer (some ⟨d, 0, none⟩), .int .i64 i, .int .i64 a, .int .i64 m] w fun e w' => e = .returned (.tuple #[]) ∧ RAt w' F d n (D.rot i a m) ∧ Out F w w' := by
  have hl := h.vd.sec.1
  by_cases hc : 0 ≤ i ∧ i < (n : Int) ∧ 0 ≤ a ∧ a < 64 ∧ 0 < m ∧ m < 256
  · obtain ⟨i', rfl⟩ : ∃ i' : Nat, i = i' := ⟨i.toNat, by omega⟩
    obtain ⟨a', rfl⟩ : ∃ a' : Nat, a = a' := ⟨a.toNat, by omega⟩
    obtain ⟨m', rfl⟩ : ∃ m' : Nat, m = m' := ⟨m.toNat, by omega⟩
    exact rrot_yes w F d n i' a' m' D h (by omega) (by omega) (by omega) (by omega)
  · refine (rrot_not w F d n i a m D h hc).mono ?_
    rintro e w' ⟨rfl, rfl⟩
    have e1 : D.rot i a m = D := by
      unfold PD.rot
      rw [if_neg (by rw [hl]; exact hc)]
    rw [e1]
    exact ⟨rfl, h, Out.refl F w⟩
set_option maxHeartbeats 4000000 in
set_option maxRecDepth 100000 in
theorem rraw_any (w : World) (F : Nat → Prop) (d n : Nat) (D : PD) (h : RAt w F d n D) :
    Calls Tryz.prog 30 #[.pointer (some ⟨d, 0, none⟩)] w fun e w' => e = .returned (.string ⟨D.ss.flatten.toArray⟩) ∧ Below w.heap.size w w' := by
  obtain ⟨sb, cap, qv, armed, a', x, y, h1, h2, h3, h4, h5, h6⟩ := h.mem
  obtain ⟨hd, c0, _, _, _, _, _, _, _⟩ := h1.cells
  have H1 := Lib.hid h1
  have H2 := Lib.hid h2
  obtain ⟨hnc, hcm⟩ := h2.cap
  have hn4 := h.n4
  have HSec := Lib.hid h.vd.sec
  obtain ⟨i5, hi5, ha5, hb5, hc5⟩ := info_parts info5
  have HC := Lib.hid hc5
  have w64 : IntKind.i64.wrap ((n : Int) * 64) = ((64 * n : Nat) : Int) := by rw [show (n : Int) * 64 = ((64 * n : Nat) : Int) by omega]; exact IntWalk.i64_in _ (by omega)
  clear h h1 h2 h3 h4 h5 h6
  go_enter Tryz.func30, Tryz.ntmps30
  go_wp2_with (at_make; refine wpList_make_own _ rfl _ _ 56 rfl w.heap.size 5 i5 _ 1 Tryz.underlying56 hi5 ha5 hb5 .i64 .i64 _ (64 * n) rfl rfl (by omega) (by rw [HC.out]; omega) (by unfold maxLen; omega) (Nat.le_refl _) ?_; intro w1 ho1 hg1)
  have HO1 : Hid (w1.ownsRow w.heap.size 5 1 (.slice (some ⟨w.heap.size, 0, none⟩) 0 (64 * n)) (D.ss.take 0).flatten.length (Lib.byteCells (D.ss.take 0).flatten)) := Lib.hid ho1
  have HB1 : Hid (Below w.heap.size w w1) := Lib.hid ⟨hg1.os, hg1.tape, hg1.output, hg1.size, fun k hk => hg1.block k hk (by simp)⟩
  clear ho1 hg1
  go_wp2_with fail
  obtain ⟨wo, rfl⟩ : ∃ wo : World, wo = w := ⟨_, rfl⟩
  go_loopw [3, 4] (fun v i wr => ∃ k : Nat, k ≤ n ∧ i = .int .i64 k ∧ Hid (wr.ownsRow wo.heap.size 5 1 v (D.ss.take k).flatten.length (Lib.byteCells (D.ss.take k).flatten)) ∧ Hid (Below wo.heap.size wo wr)) (fun _ i _ => n - (intOf i).toNat)
  case atStart => exact ⟨0, by omega, rfl, HO1, HB1⟩
  case round =>
    clear HO1 HB1
    obtain ⟨k, hk, rfl, HO, HB⟩ := hrel
    have hk0 : (0 : Int) ≤ (k : Int) := Int.natCast_nonneg _
    have hz : wo.heap.size ≤ wr.heap.size := HB.out.size
    have R1 := H1.out.keep HB.out
    obtain ⟨hdr, y0, _, _, _, _, _, _, _⟩ := R1.cells
    clear R1
    by_cases hlt : k < n
    · have hk1 : (k : Int) < (n : Int) := by omega
      have R2 : RS9 wr sb n cap D.ss := own_below H2.out HB.out
      have sc := R2.cell hlt
      obtain ⟨cur, htag⟩ := R2.tag
      have hsb := heap_lt htag
      have hl64 := HSec.out.at hlt
      have HT : Hid ((D.ss.take (k + 1)).flatten = (D.ss.take k).flatten ++ D.ss.getD k []) := Lib.hid (by
        have hkl : k < D.ss.length := by rw [HSec.out.1]; exact hlt
        rw [List.take_succ_eq_append_getElem hkl, List.flatten_append, List.getD_eq_getElem?_getD, List.getElem?_eq_getElem hkl]
        simp)
      have hpl : (D.ss.take k).flatten.length = 64 * k := by
        rw [flat_take (fun s hs => HSec.out.2 s (List.mem_of_mem_take hs)), List.length_take, HSec.out.1, Nat.min_eq_left (by omega)]
      have hsz : (⟨(D.ss.getD k []).toArray⟩ : ByteArray).size = 64 := by simp only [ByteArray.size, List.size_toArray]; exact hl64
      clear R2 htag
      generalize D.ss.getD k [] = t at *
      generalize (D.ss.take k).flatten = T at *
      go_wp2_with (at_builtin; refine Lib.wpList_append_own_string _ rfl (.tmp 23) (.tmp 30) 56 9 rfl wo.heap.size 5 i5 Tryz.underlying56 Tryz.underlying9 hi5 ha5 hb5 hc5 _ T.length (Lib.byteCells T) rfl HO.out ⟨t.toArray⟩ rfl (by unfold maxLen; omega) (by omega) hz ?_)
      intro v1 w3 ho3 hg3 _
      have B3 := Lib.hid (HB.out.grown hg3 hz (fun k hk => (HO.out.lt k hk).1))
      have O3 : Hid (w3.ownsRow wo.heap.size 5 1 v1 (D.ss.take (k + 1)).flatten.length (Lib.byteCells (D.ss.take (k + 1)).flatten)) := Lib.hid (by
        rw [HT.out, List.length_append, byte_app, hl64, ← byte_str t]
        rw [hpl]
        exact ho3)
      clear ho3 hg3
      go_wp2_with fail
      go_roundw
      case rel => exact ⟨k + 1, by omega, by go_num, O3, B3⟩
      case measure => simp [intOf]; omega
    · obtain rfl : k = n := by omega
      have HE : Hid (D.ss.take k = D.ss) := Lib.hid (List.take_of_length_le (by rw [HSec.out.1]; exact Nat.le_refl _))
      rw [HE.out] at HO
      have kc := bytes_row HO.out
      go_wp2_with fail
      go_ret
      exact ⟨rfl, HB.out⟩
set_option maxHeartbeats 4000000 in
set_option maxRecDepth 100000 in
theorem raw_any (w : World) (F : Nat → Prop) (d n : Nat) (D : PD) (h : DAt w F d n D) :
    Calls Tryz.prog 29 #[.pointer (some ⟨d, 0, none⟩)] w fun e w' => e = .returned (.string ⟨D.ss.flatten.toArray⟩) ∧ w = w' := by
  obtain ⟨sb, qv, av, h1, h2, h3, h4, h5, h6⟩ := h.mem
  obtain ⟨hd, c0, _, _, _, _⟩ := h1.cells
  have kc := run_convert_bytes_back (P := Tryz.prog) w 56 9 5 ⟨sb, 0, none⟩ (64 * n) D.ss.flatten Tryz.underlying56 Tryz.underlying5 Tryz.underlying9 (fun j hj => by
    have hadd : (⟨sb, 0, none⟩ : Addr).add j = ⟨sb, j, none⟩ := by unfold Addr.add; split <;> simp_all
    rw [hadd]
    refine cell_at h2 ?_
    rw [List.getElem?_toArray]
    unfold bytesV
    rw [List.getElem?_map, List.getElem?_eq_getElem hj]
    rfl)
  rw [h.vd.sec.flat] at kc
  clear h h1 h2 h3 h4 h5 h6
  go_enter Tryz.func29, Tryz.ntmps29
  go_wp2_with fail
  go_ret
  exact ⟨rfl, rfl⟩
end Go.Proofs.YtihoomlaggihlaaGreatDoor
