/- The walk of the law ForwardOthers. Under the condition that the tables lie in memory as the program lays them. -/
import Derived.Test.YtngbkdnkpolbfaaDoorGS
import Derived.Test.YtngbkdnkpolbfaaDoorGR
import Derived.Deep.AppendLies
import Derived.Deep.RegionHeld3
namespace Go.Proofs.YtngbkdnkpolbfaaDoor
open Go.RowKit Go.Maps

set_option maxRecDepth 100000 in
set_option maxHeartbeats 16000000 in
theorem others_few (A : Option Addr) (c : Nat) (l : List Ord) (pn door : ByteArray) (day : Int) (w : World) (HL : Hid (LaidT w)) (HR : Hid (RdO w A l)) (HFEW : Hid (fewB l = false)) : Calls Tryd.prog 6 #[.slice A l.length c, .string pn, .string door, .int .i64 day] w (Yes w) := by
  have mixed : Tryd.prog.follows .mixedOrders = true := by kernel_rfl
  go_enter Tryd.func6, Tryd.ntmps6
  go_wp2_with fail
  refine (head_any _ HL.out).mono ?_
  rintro e w1 ⟨rfl, hb⟩
  have T1 := Lib.hid hb
  have R1 := Lib.hid (HR.out.keep hb)
  clear hb
  go_wp2_with fail
  refine (few_at HFEW.out _ R1.out).mono ?_
  rintro e _ ⟨rfl, rfl⟩
  go_wp2_with fail
  go_ret
  exact ⟨rfl, T1.out⟩
set_option maxRecDepth 100000 in
set_option maxHeartbeats 16000000 in
theorem others_short (A : Option Addr) (c : Nat) (l : List Ord) (pn door : ByteArray) (day : Int) (w : World) (HL : Hid (LaidT w)) (HR : Hid (RdO w A l)) (HFEW : Hid (fewB l = true)) (HSH : Hid (shB pn door = false)) : Calls Tryd.prog 6 #[.slice A l.length c, .string pn, .string door, .int .i64 day] w (Yes w) := by
  have mixed : Tryd.prog.follows .mixedOrders = true := by kernel_rfl
  go_enter Tryd.func6, Tryd.ntmps6
  go_wp2_with fail
  refine (head_any _ HL.out).mono ?_
  rintro e w1 ⟨rfl, hb⟩
  have T1 := Lib.hid hb
  have R1 := Lib.hid (HR.out.keep hb)
  clear hb
  go_wp2_with fail
  refine (few_at HFEW.out _ R1.out).mono ?_
  rintro e _ ⟨rfl, rfl⟩
  go_wp2_with fail
  refine (short_at HSH.out _ (by simp) (by simp)).mono ?_
  rintro e _ ⟨rfl, rfl⟩
  have hb := (Gr.one w1 (.cells #[.string pn, .string door] 9)).below
  have T2 := Lib.hid (T1.out.trans (hb.mono T1.out.size))
  have R2 := Lib.hid (R1.out.keep hb)
  clear T1 R1 hb
  generalize (w1.alloc (.cells #[.string pn, .string door] 9)) = w2 at *
  go_wp2_with fail
  go_ret
  exact ⟨rfl, T2.out⟩
set_option maxRecDepth 100000 in
set_option maxHeartbeats 16000000 in
theorem others_no (A : Option Addr) (c : Nat) (l : List Ord) (pn door : ByteArray) (day : Int) (w : World) (HL : Hid (LaidT w)) (HR : Hid (RdO w A l)) (HFEW : Hid (fewB l = true)) (HSH : Hid (shB pn door = true)) (HS : Hid (∀ W, LaidT W → RdO W A l → Calls Tryd.prog 12 #[.slice A l.length c, .string pn, .string door, .int .i64 day] W fun e w' => e = .returned (.tuple #[.string ⟨#[]⟩, .slice none 0 0, .int .i64 1]) ∧ Below W.heap.size W w')) : Calls Tryd.prog 6 #[.slice A l.length c, .string pn, .string door, .int .i64 day] w (Yes w) := by
  have mixed : Tryd.prog.follows .mixedOrders = true := by kernel_rfl
  go_enter Tryd.func6, Tryd.ntmps6
  go_wp2_with fail
  refine (head_any _ HL.out).mono ?_
  rintro e w1 ⟨rfl, hb⟩
  have T1 := Lib.hid hb
  have R1 := Lib.hid (HR.out.keep hb)
  clear hb
  go_wp2_with fail
  refine (few_at HFEW.out _ R1.out).mono ?_
  rintro e _ ⟨rfl, rfl⟩
  go_wp2_with fail
  refine (short_at HSH.out _ (by simp) (by simp)).mono ?_
  rintro e _ ⟨rfl, rfl⟩
  have hb := (Gr.one w1 (.cells #[.string pn, .string door] 9)).below
  have T2 := Lib.hid (T1.out.trans (hb.mono T1.out.size))
  have R2 := Lib.hid (R1.out.keep hb)
  clear T1 R1 hb
  generalize (w1.alloc (.cells #[.string pn, .string door] 9)) = w2 at *
  go_wp2_with fail
  refine (HS.out _ (HL.out.keep T2.out) R2.out).mono ?_
  rintro e w3 ⟨rfl, hb⟩
  have T3 := Lib.hid (T2.out.trans (hb.mono T2.out.size))
  clear hb T2 R2
  go_wp2_with fail
  go_ret
  exact ⟨rfl, T3.out⟩
set_option maxRecDepth 100000 in
set_option maxHeartbeats 16000000 in
theorem others_yes (A : Option Addr) (c : Nat) (l : List Ord) (pn door : ByteArray) (day : Int) (w : World) (HL : Hid (LaidT w)) (HR : Hid (RdO w A l)) (HFEW : Hid (fewB l = true)) (HSH : Hid (shB pn door = true)) (hl : l.length ≤ 30) (HA : Hid (argB l pn door day = true)) (HS : Hid (∀ W, LaidT W → RdO W A l → Calls Tryd.prog 12 #[.slice A l.length c, .string pn, .string door, .int .i64 day] W (SPw (cntO pn day l) door W))) : Calls Tryd.prog 6 #[.slice A l.length c, .string pn, .string door, .int .i64 day] w (Yes w) := by
  have mixed : Tryd.prog.follows .mixedOrders = true := by kernel_rfl
  go_enter Tryd.func6, Tryd.ntmps6
  go_wp2_with fail
  refine (head_any _ HL.out).mono ?_
  rintro e w1 ⟨rfl, hb⟩
  have T1 := Lib.hid hb
  have R1 := Lib.hid (HR.out.keep hb)
  clear hb
  go_wp2_with fail
  refine (few_at HFEW.out _ R1.out).mono ?_
  rintro e _ ⟨rfl, rfl⟩
  go_wp2_with fail
  refine (short_at HSH.out _ (by simp) (by simp)).mono ?_
  rintro e _ ⟨rfl, rfl⟩
  have hb := (Gr.one w1 (.cells #[.string pn, .string door] 9)).below
  have T2 := Lib.hid (T1.out.trans (hb.mono T1.out.size))
  have R2 := Lib.hid (R1.out.keep hb)
  clear T1 R1 hb
  generalize (w1.alloc (.cells #[.string pn, .string door] 9)) = w2 at *
  go_wp2_with fail
  refine (HS.out _ (HL.out.keep T2.out) R2.out).mono ?_
  rintro e w3 ⟨way, t, B, cc, rfl, hE, hcc, hR, hb⟩
  have T3 := Lib.hid (T2.out.trans (hb.mono T2.out.size))
  have M3 : Hid (LI w A l B (ids way) w3) := Lib.hid ⟨R2.out.keep hb, hR, T3.out⟩
  have HE := Lib.hid hE
  clear hb hR T2 R2 hE T3
  have hw : way.length ≤ 30 := Nat.le_trans (way_len HE.out) hl
  have HP := Lib.hid (arg_prp HA.out)
  obtain ⟨C, hC⟩ : ∃ C, cntO pn day l = C := ⟨_, rfl⟩
  have HC := Lib.hid hC
  clear hC
  have S0 : Hid (Two w3 w3.heap.size (.slice none 0 0) (l.drop l.length).reverse (.slice none 0 0) [] ∧ Less C l l.length []) := Lib.hid ⟨⟨by rw [List.drop_length]; exact World.ownsRow_nil _ _ _ _, World.ownsRow_nil _ _ _ _, fun g h => by cases h⟩, Less.start C l⟩
  have B0 := Lib.hid (Below.refl w3.heap.size w3)
  go_wp2_with fail
  go_loopw [13, 14, 15] (fun v1 v2 iv wj => ∃ i : Nat, i ≤ l.length ∧ iv = .int .i64 ((i : Int) - 1) ∧ ∃ r : List Ord, Hid (Two wj w3.heap.size v1 (l.drop i).reverse v2 r ∧ Less C l i r) ∧ Hid (Below w3.heap.size w3 wj)) (fun _ _ i _ => (intOf i + 1).toNat)
  case atStart => exact ⟨l.length, Nat.le_refl _, rfl, [], S0, B0⟩
  case round =>
    clear S0 B0
    obtain ⟨i, hi, rfl, r, HT, HB⟩ := hrel
    cases i with
    | succ k =>
      have hlt : k < l.length := by omega
      rw [show ((k + 1 : Nat) : Int) - 1 = (k : Int) by omega]
      have M := Lib.hid (M3.out.keep HB.out)
      obtain ⟨b, off, rfl, hb, q0, q1, q2, q3, q4, q5⟩ := M.out.1.at hlt
      have HDR := Lib.hid (drop_rev l k hlt)
      have HAD := Lib.hid (fun r (h : Less C l (k + 1) r) => h.add (prp_nodup HP.out) hlt)
      have HSK := Lib.hid (fun r (h : Less C l (k + 1) r) hc => h.skip hlt hc)
      have HID := Lib.hid (fun k' (h' : k' < l.length) (e : l[k'] = l[k]) => show k' = k from idx_inj (prp_nodup HP.out) h' hlt e)
      obtain ⟨o, ho⟩ : ∃ o, l[k] = o := ⟨_, rfl⟩
      rw [ho] at q0 q1 q2 q3 q4 q5 HDR
      simp only [ho] at HAD HSK HID
      have HO := Lib.hid ho
      clear ho
      obtain ⟨A1, c1, rfl⟩ := own_sl HT.out.1.1
      obtain ⟨A2, c2, rfl⟩ := own_sl HT.out.1.2.1
      obtain ⟨a, ha⟩ : ∃ a, (l.drop (k + 1)).reverse = a := ⟨_, rfl⟩
      rw [ha] at HT HDR ⊢
      have hal : a.length + k + 1 = l.length := by rw [← ha]; simp; omega
      have hrl : r.length ≤ l.length := by have := HT.out.2.2.2.2; omega
      clear ha
      obtain ⟨i26, hi26, ha26, hb26, hc26⟩ := info_parts info26
      have HN := Lib.hid (fun j u (hu : (flatO [o])[j]? = some u) => news6 (w := wr) hu)
      have HZ := Lib.hid HB.out.size
      go_wp2_with (at_builtin; refine wpList_append_lies _ rfl (.tmp 53) (.tmp 58) 22 rfl w3.heap.size 26 i26 _ 6 80 Tryd.underlying22 hi26 ha26 hb26 hc26 rfl (by decide) (.slice A1 a.length c1) a.length (flatO a) rfl (HT.out.1.keep (Gr.one _ _).below).1 ⟨wr.heap.size, 0, none⟩ 1 1 (flatO [o]) rfl rfl HN.out (flat_one _) (by decide) (by unfold maxLen; omega) (by omega) (by have := HZ.out; simp; omega) _ rfl ?_; intro g1 cap1 w5 ho1 hg1 hl1 hm1; (have HT5 := Lib.hid (HT.out.1.app (Gr.one _ _) ho1 hg1 hl1)); (have HB5 := Lib.hid ((HB.out.alloc HZ.out (.cells #[.string o.id, .string o.pn, .string o.fr, .string o.to, .int .i64 o.pf, .int .i64 o.pu] 26)).grown hg1 (by have := HZ.out; simp; omega) (fun g hg => (own_lt HT.out.1.1 hg).1))); (have M5 := Lib.hid (M3.out.keep HB5.out)); (have HL5 := Lib.hid HT.out.2); (clear ho1 hg1 hl1 hm1 HN HZ HT M HB q0 q1 q2 q3 q4 q5 hb); (obtain ⟨b2, off2, e2, hb, q0, q1, q2, q3, q4, q5⟩ := M5.out.1.at hlt); (obtain ⟨rfl, rfl⟩ : b = b2 ∧ off = off2 := by injection e2 with e2; injection e2 with e2 e3; exact ⟨e2, e3⟩); (clear e2); (rw [HO.out] at q0 q1 q2 q3 q4 q5))
      refine (counts_any (some ⟨b, off, none⟩) c l pn o.fr day _ M5.out.1 (by omega)).mono ?_
      rintro e w6 ⟨bi, rfl, hg, hh⟩
      have HT6 := Lib.hid (HT5.out.keep hg.below)
      have HB6 := Lib.hid (HB5.out.trans (hg.below.mono HB5.out.size))
      have M6 := Lib.hid (M3.out.keep HB6.out)
      have HH := Lib.hid hh
      clear hg hh HT5 HB5 M5 q0 q1 q2 q3 q4 q5 hb
      by_cases ebi : bi = (k : Int)
      · subst ebi
        have HCO : Hid (C o.fr = some o) := Lib.hid (by rcases HH.out with ⟨e, _⟩ | ⟨k', h', e, hc⟩; (exfalso; omega); (have e2 : k' = k := by omega); subst e2; rw [← HC.out, hc, HO.out])
        clear HH
        obtain ⟨b2, off2, e2, hb, q0, q1, q2, q3, q4, q5⟩ := M6.out.1.at hlt
        obtain ⟨rfl, rfl⟩ : b = b2 ∧ off = off2 := by injection e2 with e2; injection e2 with e2 e3; exact ⟨e2, e3⟩
        clear e2
        rw [HO.out] at q0 q1 q2 q3 q4 q5
        have HN := Lib.hid (fun j u (hu : (flatO [o])[j]? = some u) => news6 (w := w6) hu)
        have HZ := Lib.hid HB6.out.size
        go_wp2_with (at_builtin; refine wpList_append_lies _ rfl (.tmp 71) (.tmp 76) 22 rfl w3.heap.size 26 i26 _ 6 80 Tryd.underlying22 hi26 ha26 hb26 hc26 rfl (by decide) (.slice A2 r.length c2) r.length (flatO r) rfl (HT6.out.keep (Gr.one _ _).below).2.1 ⟨w6.heap.size, 0, none⟩ 1 1 (flatO [o]) rfl rfl HN.out (flat_one _) (by decide) (by unfold maxLen; omega) (by omega) (by have := HZ.out; simp; omega) _ rfl ?_; intro g2 cap2 w7 ho2 hg2 hl2 hm2)
        have HR2 : Hid (Two w7 w3.heap.size (.slice (some ⟨g1, 0, none⟩) (a.length + 1) cap1) (l.drop k).reverse (.slice (some ⟨g2, 0, none⟩) (r.length + 1) cap2) (r ++ [o]) ∧ Less C l k (r ++ [o])) := Lib.hid ⟨by rw [HDR.out]; exact HT6.out.app' (Gr.one _ _) ho2 hg2 hl2, HAD.out r HL5.out⟩
        have HBX := Lib.hid ((HB6.out.alloc HZ.out (.cells #[.string o.id, .string o.pn, .string o.fr, .string o.to, .int .i64 o.pf, .int .i64 o.pu] 26)).grown hg2 (by have := HZ.out; simp; omega) (fun g hg => (own_lt HT6.out.2.1 hg).1))
        clear ho2 hg2 hl2 hm2 HN HZ hi26 ha26 hb26 hc26
        go_wp2_with fail
        go_roundw
        case rel => exact ⟨k, by omega, rfl, _, HR2, HBX⟩
        case measure => simp [intOf]
      · have d1 : (bi == (k : Int)) = false := by rw [beq_eq_false_iff_ne]; exact ebi
        have HCO : Hid (C o.fr ≠ some o) := Lib.hid (fun hc => by rcases HH.out with ⟨_, e⟩ | ⟨k', h', e, hc'⟩; (rw [HC.out, hc] at e; cases e); (rw [HC.out, hc] at hc'; exact ebi (by rw [e, HID.out k' h' (Option.some.inj hc').symm])))
        have HR2 : Hid (Two w6 w3.heap.size (.slice (some ⟨g1, 0, none⟩) (a.length + 1) cap1) (l.drop k).reverse (.slice A2 r.length c2) r ∧ Less C l k r) := Lib.hid ⟨by rw [HDR.out]; exact HT6.out, HSK.out r HL5.out HCO.out⟩
        have HBX := Lib.hid HB6.out
        clear ebi HH HCO hi26 ha26 hb26 hc26
        go_wp2_with fail
        go_roundw
        case rel => exact ⟨k, by omega, rfl, _, HR2, HBX⟩
        case measure => simp [intOf]
    | zero =>
      clear hi
      rw [show ((0 : Nat) : Int) - 1 = -1 by rfl]
      have M := Lib.hid (M3.out.keep HB.out)
      rw [List.drop_zero] at HT
      obtain ⟨A1, c1, n1, rfl, hn1, hr1⟩ := own_rd2 HT.out.1.1
      obtain ⟨A2, c2, n2, rfl, hn2, hr2⟩ := own_rd2 HT.out.1.2.1
      have HR1 := Lib.hid hr1
      have HR2 := Lib.hid hr2
      clear hr1 hr2
      have S1 := Lib.hid (fun W (hL : Laid W) (hr : RdO W A1 l.reverse) => settle_same A1 c1 l l.reverse way pn door t day W hL hr (fewB_of HFEW.out (fun o ho => List.mem_reverse.1 ho) (by simp)) (argB_of HA.out (prp_rev HP.out)) (cnt_rev HP.out) HE.out)
      have S2 := Lib.hid (fun W (hL : Laid W) (hr : RdO W A2 r) => settle_same A2 c2 l r way pn door t day W hL hr (fewB_of HFEW.out (fun o ho => by have := HT.out.2.1 o ho; rwa [List.drop_zero] at this) (by have := HT.out.2.2.2.2; omega)) (argB_of HA.out (less_prp HP.out (by rw [HC.out]; exact HT.out.2))) (cnt_less HP.out (by rw [HC.out]; exact HT.out.2)) HE.out)
      rw [hn1] at S1
      rw [hn2] at S2
      clear hn1 hn2 HT HB
      go_wp2_with fail
      refine (S1.out _ (HL.out.keep M.out.2.2).1 HR1.out).mono ?_
      rintro e w8 ⟨A8, c8, rfl, hc8, hR8, hb⟩
      have M8 := Lib.hid (M.out.keep hb)
      have HR28 := Lib.hid (HR2.out.keep hb)
      have X8 := Lib.hid hR8
      clear hb hR8 M HR1 HR2 S1
      go_wp2_with fail
      refine (S2.out _ (HL.out.keep M8.out.2.2).1 HR28.out).mono ?_
      rintro e w9 ⟨A9, c9, rfl, hc9, hR9, hb⟩
      have M9 := Lib.hid (M8.out.keep hb)
      have X9 := Lib.hid (X8.out.keep hb)
      have Y9 := Lib.hid hR9
      clear hb hR9 M8 HR28 X8 S2
      have hwl : (ids way).length = way.length := by simp [ids]
      have HWL := Lib.hid hwl
      clear hwl
      go_wp2_with fail
      refine (texts_at _ M9.out.2.1 X9.out (by rw [HWL.out]; omega) HWL.out).mono ?_
      rintro e w10 ⟨rfl, hg⟩
      have M10 := Lib.hid (M9.out.keep hg.below)
      have Y10 := Lib.hid (Y9.out.keep hg.below)
      clear hg M9 X9 Y9
      go_wp2_with fail
      refine (texts_at _ M10.out.2.1 Y10.out (by rw [HWL.out]; omega) HWL.out).mono ?_
      rintro e w11 ⟨rfl, hg⟩
      have M11 := Lib.hid (M10.out.keep hg.below)
      clear hg M10 Y10
      go_wp2_with fail
      go_ret
      exact ⟨rfl, M11.out.2.2⟩
theorem others_walk (A : Option Addr) (l : List Ord) (c : Nat) (pn door : ByteArray) (day : Int) (w : World) (hL : LaidT w) (hR : RdO w A l) : Calls Tryd.prog 6 #[.slice A l.length c, .string pn, .string door, .int .i64 day] w (Yes w) := by
  cases hf : fewB l
  · exact others_few A c l pn door day w (Lib.hid hL) (Lib.hid hR) (Lib.hid hf)
  cases hs : shB pn door
  · exact others_short A c l pn door day w (Lib.hid hL) (Lib.hid hR) (Lib.hid hf) (Lib.hid hs)
  have zz : pn.size ≤ 60 ∧ door.size ≤ 60 := of_decide_eq_true hs
  cases ha : argB l pn door day
  · exact others_no A c l pn door day w (Lib.hid hL) (Lib.hid hR) (Lib.hid hf) (Lib.hid hs) (Lib.hid fun W hL hr => settle_no A c l pn door day W hL.1 hr (by have := few_len hf; omega) (fun o ho => by have k := few_mem hf ho; exact ⟨by omega, by omega, by omega, by omega⟩) (by omega) (by omega) ha)
  · exact others_yes A c l pn door day w (Lib.hid hL) (Lib.hid hR) (Lib.hid hf) (Lib.hid hs) (few_len hf) (Lib.hid ha) (Lib.hid fun W hL hr => settle_w A c l pn door day W hL.1 hr hf ha)
end Go.Proofs.YtngbkdnkpolbfaaDoor
