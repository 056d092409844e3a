/- The contract of forward's Text. Under the condition that the tables lie in memory as the program lays them. -/
import Derived.Test.YtngbkdnkpolbfaaDoorFK
namespace Go.Proofs.YtngbkdnkpolbfaaDoor
open Go.RowKit Go.Maps

/-- the last part of an order's text -/
def unt (u : Int) : List UInt8 := if 0 ≤ u then txt u else [45]
/-- the text of an order -/
def otxt (o : Ord) : List UInt8 := Lib.join [[111, 114, 100, 101, 114], o.id.data.toList, o.pn.data.toList, o.fr.data.toList, o.to.data.toList, txt o.pf, unt o.pu] [32]
theorem prpL_one (o : Ord) : prpL [o] = oneB o := by unfold prpL ids; simp
theorem txt_len (n : Int) (h0 : 0 ≤ n) (h1 : n ≤ 100000) : (txt n).length ≤ 10 := by
  obtain ⟨y1, y2⟩ := split_yr n h0 h1
  obtain ⟨m1, m2, d1, d2, _⟩ := split_ok n
  have hl := len_bd (spY n) (spM n) m1 m2
  have L1 := itoa_len _ y1 y2
  have L2 := two_len (spM n).toNat (by omega)
  have L3 := two_len (spD n).toNat (by omega)
  unfold txt
  simp [Lib.join]; omega
theorem one_parts {o : Ord} (h : oneB o = true) : nmB o.id = true ∧ nmB o.pn = true ∧ nmB o.fr = true ∧ nmB o.to = true ∧ o.fr ≠ o.to ∧ prp (o.pf, o.pu) = true := by
  unfold oneB at h
  simp only [Bool.and_eq_true, Bool.not_eq_true', decide_eq_false_iff_not] at h
  exact ⟨h.1, h.2.1, h.2.2.1, h.2.2.2.1, h.2.2.2.2.1, h.2.2.2.2.2⟩
theorem nm_size {s : ByteArray} (h : nmB s = true) : 0 < s.size ∧ s.size ≤ 24 := by
  unfold nmB at h
  rw [Bool.and_eq_true, decide_eq_true_iff] at h
  exact h.2
set_option maxHeartbeats 2000000 in
set_option maxRecDepth 100000 in
theorem otext_no (o : Ord) (w : World) (hs : Small o) (h : oneB o = false) : Calls Tryd.prog 14 #[.agg (encO o)] w fun e w' => e = .returned (.tuple #[.string ⟨#[]⟩, .int .i64 1]) ∧ Below w.heap.size w w' := by
  have HP := Lib.hid (fun (W : World) (c : Nat) (b : Nat) (hr : RdO W (some ⟨b, 0, none⟩) [o]) => by have k := proper_list (some ⟨b, 0, none⟩) c [o] W hr (by simp) (fun p hp => by rw [List.mem_singleton.1 hp]; exact hs); rw [prpL_one, h] at k; exact k)
  clear h
  have HR := Lib.hid (fun (W : World) => (show RdO (W.alloc (.cells (encO o) 26)) (some ⟨W.heap.size, 0, none⟩) [o] from Or.inr ⟨W.heap.size, 0, rfl, by simp, fun j hj => by
    obtain rfl : j = 0 := by simpa using hj
    exact At6.made W o 26⟩))
  go_enter Tryd.func14, Tryd.ntmps14
  go_wp2_with fail
  refine (HP.out _ _ _ (by simpa using HR.out (w.alloc (.cells (encO o) 26)))).mono ?_
  rintro e w2 ⟨rfl, b2⟩
  have HB2 := Lib.hid (((Gr.one w (.cells (encO o) 26)).alloc (.cells (encO o) 26)).below.trans (b2.mono (by simp; omega)))
  clear b2
  go_wp2_with fail
  go_ret2
  exact ⟨rfl, HB2.out⟩
/-- seven parts joined by blanks -/
theorem join7 (o : Ord) (a b : List UInt8) (W : World) (z1 : o.id.size ≤ 1000) (z2 : o.pn.size ≤ 1000) (z3 : o.fr.size ≤ 1000) (z4 : o.to.size ≤ 1000) (ha : a.length ≤ 10) (hb : b.length ≤ 10) :
    Calls Tryd.prog 33 #[.slice (some ⟨W.heap.size, 0, none⟩) 7 7, .string ⟨#[32]⟩] (W.alloc (.cells #[.string ⟨#[111, 114, 100, 101, 114]⟩, .string o.id, .string o.pn, .string o.fr, .string o.to, .string ⟨a.toArray⟩, .string ⟨b.toArray⟩] 9)) fun e w' =>
      e = .returned (.string ⟨(Lib.join [[111, 114, 100, 101, 114], o.id.data.toList, o.pn.data.toList, o.fr.data.toList, o.to.data.toList, a, b] [32]).toArray⟩) ∧ Below W.heap.size W w' := by
  refine (Tryd.strings_Join W.heap.size 0 7 [⟨#[111, 114, 100, 101, 114]⟩, o.id, o.pn, o.fr, o.to, ⟨a.toArray⟩, ⟨b.toArray⟩] ⟨#[32]⟩ _ ?_ ?_ ?_ ?_ ?_).mono ?_
  · intro j x hj
    match j, hj with
    | 0, hj => simp at hj; subst hj; simp
    | 1, hj => simp at hj; subst hj; simp
    | 2, hj => simp at hj; subst hj; simp
    | 3, hj => simp at hj; subst hj; simp
    | 4, hj => simp at hj; subst hj; simp
    | 5, hj => simp at hj; subst hj; simp
    | 6, hj => simp at hj; subst hj; simp
    | j + 7, hj => simp at hj
  · simp
  · simp
  · simp
  · simp [Lib.join]; omega
  · rintro e w' ⟨rfl, hb⟩
    exact ⟨rfl, (Gr.one _ _).below.trans (hb.mono (by simp))⟩
set_option maxHeartbeats 4000000 in
set_option maxRecDepth 100000 in
theorem otext_yes (o : Ord) (w : World) (hL : Laid w) (h : oneB o = true) : Calls Tryd.prog 14 #[.agg (encO o)] w fun e w' => e = .returned (.tuple #[.string ⟨(otxt o).toArray⟩, .int .i64 0]) ∧ Below w.heap.size w w' := by
  obtain ⟨n1, n2, n3, n4, _, n6⟩ := one_parts h
  have z1 := nm_size n1
  have z2 := nm_size n2
  have z3 := nm_size n3
  have z4 := nm_size n4
  obtain ⟨p1, p2, p3⟩ := (prp_iff (o.pf, o.pu)).1 n6
  dsimp only at p1 p2 p3
  have HP := Lib.hid (fun (W : World) (c : Nat) (b : Nat) (hr : RdO W (some ⟨b, 0, none⟩) [o]) => by have k := proper_list (some ⟨b, 0, none⟩) c [o] W hr (by simp) (fun p hp => by rw [List.mem_singleton.1 hp]; exact ⟨by omega, by omega, by omega, by omega⟩); rw [prpL_one, h] at k; exact k)
  have HR := Lib.hid (fun (W : World) => (show RdO (W.alloc (.cells (encO o) 26)) (some ⟨W.heap.size, 0, none⟩) [o] from Or.inr ⟨W.heap.size, 0, rfl, by simp, fun j hj => by
    obtain rfl : j = 0 := by simpa using hj
    exact At6.made W o 26⟩))
  have HO := Lib.hid (show otxt o = Lib.join [[111, 114, 100, 101, 114], o.id.data.toList, o.pn.data.toList, o.fr.data.toList, o.to.data.toList, txt o.pf, unt o.pu] [32] from rfl)
  have HL := Lib.hid hL
  have T1 := Lib.hid (fun W (hL : Laid W) => text_yes o.pf W hL p1 p2)
  have l1 := txt_len o.pf p1 p2
  have HU := Lib.hid (show unt o.pu = if 0 ≤ o.pu then txt o.pu else [45] from rfl)
  generalize otxt o = R at *
  generalize unt o.pu = U at *
  clear n1 n2 n3 n4 n6 h hL
  by_cases hu : 0 ≤ o.pu
  · have T2 := Lib.hid (fun W (hL : Laid W) => text_yes o.pu W hL hu (by omega))
    have l2 := txt_len o.pu hu (by omega)
    have HUU := HU.out
    rw [if_pos hu] at HUU
    rw [HUU] at HO
    clear HU HUU p3
    generalize txt o.pu = t2 at *
    generalize txt o.pf = t1 at *
    go_enter Tryd.func14, Tryd.ntmps14
    go_wp2_with fail
    refine (HP.out _ _ _ (by simpa using HR.out (w.alloc (.cells (encO o) 26)))).mono ?_
    rintro e w2 ⟨rfl, b2⟩
    have HB2 := Lib.hid (((Gr.one w (.cells (encO o) 26)).alloc (.cells (encO o) 26)).below.trans (b2.mono (by simp; omega)))
    have B2 := Lib.hid (((Blk6.made w o 26).keep (Gr.one _ (.cells (encO o) 26))).below b2)
    obtain ⟨_, ⟨x0, x1, x2, x3, x4, x5⟩, _⟩ := B2.out
    clear b2
    go_wp2_with fail
    refine (T1.out _ (HL.out.keep HB2.out)).mono ?_
    rintro e w3 ⟨rfl, b3⟩
    have HB3 := Lib.hid (HB2.out.trans (b3.mono HB2.out.size))
    have B3 := Lib.hid (B2.out.below b3)
    clear x0 x1 x2 x3 x4 x5
    obtain ⟨_, ⟨x0, x1, x2, x3, x4, x5⟩, _⟩ := B3.out
    clear b3 B2 HB2
    go_wp2_with fail
    refine (T2.out _ (HL.out.keep HB3.out)).mono ?_
    rintro e w4 ⟨rfl, b4⟩
    have HB4 := Lib.hid (HB3.out.trans (b4.mono HB3.out.size))
    have B4 := Lib.hid (B3.out.below b4)
    clear x0 x1 x2 x3 x4 x5
    obtain ⟨_, ⟨x0, x1, x2, x3, x4, x5⟩, _⟩ := B4.out
    clear b4 B3 HB3
    go_wp2_with fail
    refine (join7 o t1 t2 w4 (by omega) (by omega) (by omega) (by omega) l1 l2).mono ?_
    rintro e w5 ⟨rfl, b5⟩
    have HB5 := Lib.hid (HB4.out.trans (b5.mono HB4.out.size))
    clear b5
    go_wp2_with fail
    go_ret2
    exact ⟨by rw [HO.out]; rfl, HB5.out⟩
  · have HUU := HU.out
    rw [if_neg hu] at HUU
    rw [HUU] at HO
    have hu' : o.pu < 0 := by omega
    clear HU HUU p3 hu
    generalize txt o.pf = t1 at *
    go_enter Tryd.func14, Tryd.ntmps14
    go_wp2_with fail
    refine (HP.out _ _ _ (by simpa using HR.out (w.alloc (.cells (encO o) 26)))).mono ?_
    rintro e w2 ⟨rfl, b2⟩
    have HB2 := Lib.hid (((Gr.one w (.cells (encO o) 26)).alloc (.cells (encO o) 26)).below.trans (b2.mono (by simp; omega)))
    have B2 := Lib.hid (((Blk6.made w o 26).keep (Gr.one _ (.cells (encO o) 26))).below b2)
    obtain ⟨_, ⟨x0, x1, x2, x3, x4, x5⟩, _⟩ := B2.out
    clear b2
    go_wp2_with fail
    refine (T1.out _ (HL.out.keep HB2.out)).mono ?_
    rintro e w3 ⟨rfl, b3⟩
    have HB3 := Lib.hid (HB2.out.trans (b3.mono HB2.out.size))
    have B3 := Lib.hid (B2.out.below b3)
    clear x0 x1 x2 x3 x4 x5
    obtain ⟨_, ⟨x0, x1, x2, x3, x4, x5⟩, _⟩ := B3.out
    clear b3 B2 HB2
    go_wp2_with fail
    refine (join7 o t1 [45] w3 (by omega) (by omega) (by omega) (by omega) l1 (by simp)).mono ?_
    rintro e w5 ⟨rfl, b5⟩
    have HB5 := Lib.hid (HB3.out.trans (b5.mono HB3.out.size))
    clear b5
    go_wp2_with fail
    go_ret2
    exact ⟨by rw [HO.out]; rfl, HB5.out⟩
end Go.Proofs.YtngbkdnkpolbfaaDoor
