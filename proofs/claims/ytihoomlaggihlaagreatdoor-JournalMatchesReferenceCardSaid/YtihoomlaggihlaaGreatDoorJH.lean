/- The contract of the disk's Fail. Under no condition. -/
import Derived.Test.YtihoomlaggihlaaGreatDoorJG
import Derived.StillTailTactics
namespace Go.Proofs.YtihoomlaggihlaaGreatDoor
open Go.RowKit

/-- what is stable after a failure of power: the first k writes, of the next one j bytes -/
def failB (st : List UInt8) (l : List (Nat × List UInt8)) (k j : Nat) : List UInt8 :=
  match l[k]? with
  | some p => putB (settleB st (l.take k)) p.1 (p.2.take j)
  | none => settleB st l
theorem failB_some (st : List UInt8) (l : List (Nat × List UInt8)) (k j : Nat) (hk : k < l.length) : failB st l k j = putB (settleB st (l.take k)) l[k].1 (l[k].2.take j) := by
  unfold failB
  rw [List.getElem?_eq_getElem hk]
theorem putB_nil (st : List UInt8) (i : Nat) : putB st i [] = st := by simp [putB]
theorem QAt.take {w : World} {a : Option Addr} {sb : Nat} {l : List (Nat × List UInt8)} (h : QAt w a sb l) (m : Nat) : QAt w a sb (l.take m) := fun k hk => by
  have hk' : k < l.length := by simp at hk; omega
  have e : (l.take m)[k] = l[k] := by simp
  rw [e]
  exact h k hk'

theorem extract_take (l : List UInt8) (j : Nat) : (⟨l.toArray⟩ : ByteArray).extract 0 j = ⟨(l.take j).toArray⟩ := by
  apply ByteArray.ext
  rw [ByteArray.data_extract]
  apply Array.toList_inj.1
  simp
/-- the end of Fail, of a world that has changed in sb alone -/
theorem fin_out (w w2 : World) (d sb : Nat) (l : List Value) (o : Obj) (hds : d ≠ sb) (hb : w2.heap[sb]? = some (.cells l.toArray 5 (0, 0))) (ho : Out (· = sb) w w2) :
    ((((w2.setCell ⟨d, 1, none⟩ (.slice none 0 0)).setCell ⟨d, 2, none⟩ (.bool true)).setCell ⟨d, 3, none⟩ (.pointer none)).alloc o).heap[sb]? = some (.cells l.toArray 5 (0, 0)) ∧
    Out (fun k => k = d ∨ k = sb) w ((((w2.setCell ⟨d, 1, none⟩ (.slice none 0 0)).setCell ⟨d, 2, none⟩ (.bool true)).setCell ⟨d, 3, none⟩ (.pointer none)).alloc o) := by
  have k : Out (· = d) w2 ((((w2.setCell ⟨d, 1, none⟩ (.slice none 0 0)).setCell ⟨d, 2, none⟩ (.bool true)).setCell ⟨d, 3, none⟩ (.pointer none)).alloc o) :=
    (((Out.set (F := (· = d)) w2 (a := ⟨d, 1, none⟩) (.slice none 0 0) rfl).trans (Out.set (F := (· = d)) _ (a := ⟨d, 2, none⟩) (.bool true) rfl) (fun _ e => Or.inl e)).trans (Out.set (F := (· = d)) _ (a := ⟨d, 3, none⟩) (.pointer none) rfl) (fun _ e => Or.inl e)).trans (Out.of_below (F := (· = d)) (Gr.one _ _).below) (fun _ e => Or.inl e)
  exact ⟨k.heap hb (fun e => hds e.symm), (ho.mono (fun _ _ e => Or.inr e)).trans k (fun _ e => Or.inl (Or.inl e))⟩

/-- the same, with no new block: a world that has changed in sb alone -/
theorem fin_out0 (w w2 : World) (d sb : Nat) (l : List Value) (hds : d ≠ sb) (hb : w2.heap[sb]? = some (.cells l.toArray 5 (0, 0))) (ho : Out (· = sb) w w2) :
    ((((w2.setCell ⟨d, 1, none⟩ (.slice none 0 0)).setCell ⟨d, 2, none⟩ (.bool true)).setCell ⟨d, 3, none⟩ (.pointer none))).heap[sb]? = some (.cells l.toArray 5 (0, 0)) ∧
    Out (fun k => k = d ∨ k = sb) w ((((w2.setCell ⟨d, 1, none⟩ (.slice none 0 0)).setCell ⟨d, 2, none⟩ (.bool true)).setCell ⟨d, 3, none⟩ (.pointer none))) := by
  have k : Out (· = d) w2 ((((w2.setCell ⟨d, 1, none⟩ (.slice none 0 0)).setCell ⟨d, 2, none⟩ (.bool true)).setCell ⟨d, 3, none⟩ (.pointer none))) :=
    (((Out.set (F := (· = d)) w2 (a := ⟨d, 1, none⟩) (.slice none 0 0) rfl).trans (Out.set (F := (· = d)) _ (a := ⟨d, 2, none⟩) (.bool true) rfl) (fun _ e => Or.inl e)).trans (Out.set (F := (· = d)) _ (a := ⟨d, 3, none⟩) (.pointer none) rfl) (fun _ e => Or.inl e))
  exact ⟨k.heap hb (fun e => hds e.symm), (ho.mono (fun _ _ e => Or.inr e)).trans k (fun _ e => Or.inl (Or.inl e))⟩

set_option maxHeartbeats 4000000 in
set_option maxRecDepth 100000 in
theorem fail_some (w : World) (d sb n q c k j : Nat) (av : Value) (st : List UInt8) (l : List (Nat × List UInt8)) (x y : Int) (h : DB w d sb n (.slice (some ⟨q, 0, none⟩) l.length c) false av) (hds : d ≠ sb) (hs : w.heap[sb]? = some (.cells (bytesV st).toArray 5 (0, 0))) (hl : st.length = 64 * n) (hp : ∀ p ∈ l, p.1 < n ∧ p.2.length = 64) (hq : QAt w (some ⟨q, 0, none⟩) sb l) (hm : l.length ≤ 100000) (hc : l.length ≤ c) (hx : max x 0 = (k : Int)) (hk : k < l.length) (hy : min (max y 0) 64 = (j : Int)) :
    Calls Tryz.prog 20 #[.pointer (some ⟨d, 0, none⟩), .int .i64 x, .int .i64 y] w fun e w' => e = .returned (.tuple #[]) ∧ DB w' d sb n (.slice none 0 0) true (.pointer none) ∧ w'.heap[sb]? = some (.cells (bytesV (failB st l k j)).toArray 5 (0, 0)) ∧ Out (fun k => k = d ∨ k = sb) w w' := by
  have H := Lib.hid h
  have HS := Lib.hid hs
  have HP := Lib.hid hp
  have HQ := Lib.hid hq
  have HL := Lib.hid hl
  obtain ⟨hd, c0, c1, c2, c3, fz⟩ := h.cells
  clear h hs hp hq hl fz
  have m2 : min (k : Int) (l.length : Int) = k := by omega
  have hk0 : (0 : Int) ≤ (k : Int) := Int.natCast_nonneg _
  have hk1 : (k : Int) < (l.length : Int) := by omega
  have hk2 : (k : Int) ≤ (c : Int) := by omega
  have hlen : (settleB st (l.take k)).length = 64 * n := settleB_length _ _ HL.out (fun p hp => by have := HP.out p (List.mem_of_mem_take hp); omega)
  have hlt : (l.take k).length = k := by simp; omega
  have HC := Lib.hid (settle_any w d sb n (.slice (some ⟨q, 0, none⟩) l.length c) av false (some ⟨q, 0, none⟩) c st (l.take k) H.out hds HS.out HL.out (fun p hp => by have := HP.out p (List.mem_of_mem_take hp); omega) (HQ.out.take k) (by omega))
  rw [hlt] at HC
  go_enter Tryz.func20, Tryz.ntmps20
  go_wp2_with fail
  refine HC.out.mono ?_
  rintro e w2 ⟨rfl, hb, ho⟩
  have HB := Lib.hid hb
  have HO := Lib.hid ho
  have H2 := Lib.hid (show DB w2 d sb n (.slice (some ⟨q, 0, none⟩) l.length c) false av from ho.heap H.out hds)
  obtain ⟨_, cs, e1, hqs, hh, q0, q1, q2⟩ := HQ.out k hk
  cases e1
  have hh' := ho.heap hh hqs
  have r0 := cell_at hh' q0
  have r1 := cell_at hh' q1
  have r2 := cell_at hh' q2
  obtain ⟨_, c02, c12, c22, c32, fz2⟩ := H2.out.cells
  have f21 := fz2 1
  have f22 := fz2 2
  have f23 := fz2 3
  clear hh hh' q0 q1 q2 hb ho HC c0 c1 c2 c3 fz2
  have HW2 := Lib.hid (show Below w2.heap.size w2 (w2.alloc (.cells #[.int .i64 ((l[k].1 : Int) * 64), .int .i64 (((l[k].1 : Int) + 1) * 64), .string ⟨l[k].2.toArray⟩] 88)) from (Gr.one w2 _).below)
  have hsz : l[k].2.length = 64 := (HP.out l[k] (List.getElem_mem hk)).2
  have hz : (⟨l[k].2.toArray⟩ : ByteArray).size = 64 := by simp [ByteArray.size, hsz]
  have hz2 : l[k].2.toArray.size = 64 := by simp [hsz]
  have E3 := Lib.hid (fin_out w w2 d sb (bytesV (settleB st (l.take k))) (.cells #[.int .i64 ((l[k].1 : Int) * 64), .int .i64 (((l[k].1 : Int) + 1) * 64), .string ⟨l[k].2.toArray⟩] 88) hds HB.out HO.out)
  rcases Nat.eq_zero_or_pos j with hj | hj
  · subst hj
    go_wp2_with fail
    go_end0
    refine ⟨rfl, ((((H2.out.set1 _).set2 true).set3 _).keep (Gr.one _ _).below), ?_, ?_⟩
    · rw [failB_some st l k 0 hk, List.take_zero, putB_nil]
      exact E3.out.1
    · exact E3.out.2
  · have hj0 : (0 : Int) < (j : Int) := by omega
    have hj1 : (j : Int) ≤ 64 := by omega
    have hj2 : (0 : Int) ≤ (j : Int) := by omega
    go_wp2_with fail
    have HT := Lib.hid (fun (W : World) (hW : Below w2.heap.size w2 W) => set_any W d sb n l[k].1 (.slice (some ⟨q, 0, none⟩) l.length c) av false (bytesV (settleB st (l.take k))) (l[k].2.take j) (H2.out.keep hW) ((hW.block _ (heap_lt HB.out)).trans HB.out) (by rw [bytesV_length, hlen]) (HP.out l[k] (List.getElem_mem hk)).1 (by simp; omega))
    refine wp_region_still_tail 7 (by decide) (by kernel_rfl) ?_
    simp only [List.take_succ_cons, List.take_zero, List.drop_succ_cons, List.drop_zero]
    change wpStill _ _ (World.drew (w2.alloc _)) _ _ _
    still_step
    still_step
    still_step
    still_step
    still_step
    still_step
    still_step
    refine wpStill_nil ?_
    change wpList _ _ _ _ _ (World.drew (w2.alloc _))
    go_wp2_with fail
    rw [extract_take]
    refine (HT.out _ HW2.out.drew).mono ?_
    rintro e w3 ⟨rfl, hb3, ho3⟩
    have H3 := Lib.hid (show DB w3 d sb n (.slice (some ⟨q, 0, none⟩) l.length c) false av from ho3.heap (H2.out.keep HW2.out.drew) hds)
    have E4 := Lib.hid (fin_out0 w w3 d sb _ hds hb3 ((HO.out.trans (Out.of_below (F := (· = sb)) HW2.out.drew) (fun _ e => Or.inl e)).trans ho3 (fun _ e => Or.inl e)))
    obtain ⟨_, c03, c13, c23, c33, fz3⟩ := H3.out.cells
    have f31 := fz3 1
    have f32 := fz3 2
    have f33 := fz3 3
    clear hb3 ho3 fz3
    go_wp2_with fail
    go_end0
    refine ⟨rfl, ((H3.out.set1 _).set2 true).set3 _, ?_, E4.out.2⟩
    rw [failB_some st l k j hk, bytesV_put]
    exact E4.out.1
set_option maxHeartbeats 4000000 in
set_option maxRecDepth 100000 in
theorem fail_nil (w : World) (d sb n : Nat) (av : Value) (st : List UInt8) (x y : Int) (h : DB w d sb n (.slice none 0 0) false av) (hds : d ≠ sb) (hs : w.heap[sb]? = some (.cells (bytesV st).toArray 5 (0, 0))) (hl : st.length = 64 * n) :
    Calls Tryz.prog 20 #[.pointer (some ⟨d, 0, none⟩), .int .i64 x, .int .i64 y] w fun e w' => e = .returned (.tuple #[]) ∧ DB w' d sb n (.slice none 0 0) true (.pointer none) ∧ w'.heap[sb]? = some (.cells (bytesV st).toArray 5 (0, 0)) ∧ Out (fun k => k = d ∨ k = sb) w w' := by
  have H := Lib.hid h
  have HC : Hid (Calls Tryz.prog 61 #[.pointer (some ⟨d, 0, none⟩), .slice none 0 0] w fun e w' => e = .returned (.tuple #[]) ∧ w'.heap[sb]? = some (.cells (bytesV st).toArray 5 (0, 0)) ∧ Out (· = sb) w w') := Lib.hid (settle_any w d sb n (.slice none 0 0) av false none 0 st [] h hds hs hl (by simp) (fun k hk => absurd hk (by simp)) (by simp))
  obtain ⟨hd, c0, c1, c2, c3, fz⟩ := h.cells
  clear h hs hl fz
  have m2 : min (max x 0) 0 = 0 := by omega
  go_enter Tryz.func20, Tryz.ntmps20
  go_wp2_with fail
  refine HC.out.mono ?_
  rintro e w2 ⟨rfl, hb, ho⟩
  have HB := Lib.hid hb
  have HO := Lib.hid ho
  have H2 := Lib.hid (show DB w2 d sb n (.slice none 0 0) false av from ho.heap H.out hds)
  obtain ⟨_, c02, c12, c22, c32, fz2⟩ := H2.out.cells
  have f21 := fz2 1
  have f22 := fz2 2
  have f23 := fz2 3
  have E3 := Lib.hid (fin_out0 w w2 d sb (bytesV st) hds HB.out HO.out)
  clear hb ho HC c0 c1 c2 c3 fz2
  go_wp2_with fail
  go_end0
  exact ⟨rfl, ((H2.out.set1 _).set2 true).set3 _, E3.out.1, E3.out.2⟩
set_option maxHeartbeats 4000000 in
set_option maxRecDepth 100000 in
theorem fail_full (w : World) (d sb n q c : Nat) (av : Value) (st : List UInt8) (l : List (Nat × List UInt8)) (x y : Int) (h : DB w d sb n (.slice (some ⟨q, 0, none⟩) l.length c) false av) (hds : d ≠ sb) (hs : w.heap[sb]? = some (.cells (bytesV st).toArray 5 (0, 0))) (hl : st.length = 64 * n) (hp : ∀ p ∈ l, p.1 < n ∧ p.2.length = 64) (hq : QAt w (some ⟨q, 0, none⟩) sb l) (hm : l.length ≤ 100000) (hc : l.length ≤ c) (hx : (l.length : Int) ≤ max x 0) :
    Calls Tryz.prog 20 #[.pointer (some ⟨d, 0, none⟩), .int .i64 x, .int .i64 y] w fun e w' => e = .returned (.tuple #[]) ∧ DB w' d sb n (.slice none 0 0) true (.pointer none) ∧ w'.heap[sb]? = some (.cells (bytesV (settleB st l)).toArray 5 (0, 0)) ∧ Out (fun k => k = d ∨ k = sb) w w' := by
  have H := Lib.hid h
  have HC := Lib.hid (settle_any w d sb n (.slice (some ⟨q, 0, none⟩) l.length c) av false (some ⟨q, 0, none⟩) c st l h hds hs hl (fun p hp' => by have := hp p hp'; omega) hq hm)
  obtain ⟨hd, c0, c1, c2, c3, fz⟩ := h.cells
  clear h hs hp hq hl fz
  have m2 : min (max x 0) (l.length : Int) = l.length := by omega
  have hk2 : (l.length : Int) ≤ (c : Int) := by omega
  have hk0 : (0 : Int) ≤ (l.length : Int) := Int.natCast_nonneg _
  clear hx
  go_enter Tryz.func20, Tryz.ntmps20
  go_wp2_with fail
  refine HC.out.mono ?_
  rintro e w2 ⟨rfl, hb, ho⟩
  have HB := Lib.hid hb
  have HO := Lib.hid ho
  have H2 := Lib.hid (show DB w2 d sb n (.slice (some ⟨q, 0, none⟩) l.length c) false av from ho.heap H.out hds)
  obtain ⟨_, c02, c12, c22, c32, fz2⟩ := H2.out.cells
  have f21 := fz2 1
  have f22 := fz2 2
  have f23 := fz2 3
  have E3 := Lib.hid (fin_out0 w w2 d sb (bytesV (settleB st l)) hds HB.out HO.out)
  clear hb ho HC c0 c1 c2 c3 fz2
  go_wp2_with fail
  go_end0
  exact ⟨rfl, ((H2.out.set1 _).set2 true).set3 _, E3.out.1, E3.out.2⟩
set_option maxHeartbeats 4000000 in
set_option maxRecDepth 100000 in
theorem fail_off (w : World) (d sb n : Nat) (qv av : Value) (x y : Int) (h : DB w d sb n qv true av) :
    Calls Tryz.prog 20 #[.pointer (some ⟨d, 0, none⟩), .int .i64 x, .int .i64 y] w fun e w' => e = .returned (.tuple #[]) ∧ w = w' := by
  obtain ⟨hd, c0, c1, c2, c3, fz⟩ := h.cells
  clear h fz
  go_enter Tryz.func20, Tryz.ntmps20
  go_wp2_with fail
  exact bodyPost_ret (v := .tuple #[]) (by simp [results, Tryz.results20, go_sem]) rfl ⟨rfl, rfl⟩
end Go.Proofs.YtihoomlaggihlaaGreatDoor
