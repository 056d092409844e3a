/- The contracts of the reference's Proper and Text. Under no condition but sizes. -/
import Derived.Test.YtngbkdnkpolbfaaDoorHA
import Derived.Test.YtngbkdnkpolbfaaDoorDY
namespace Go.Proofs.YtngbkdnkpolbfaaDoor
open Go.RowKit Go.Maps

theorem mem_ids {l : List Ord} {i j : Nat} (hj : j < i) (hi : i < l.length) : l[j].id ∈ ids (l.take i) := by
  unfold ids
  refine List.mem_map.2 ⟨l[j], ?_, rfl⟩
  refine List.mem_iff_getElem.2 ⟨j, by rw [List.length_take]; omega, by rw [List.getElem_take]⟩
theorem not_ids {l : List Ord} {i : Nat} {x : ByteArray} (hi : i < l.length) (h : ∀ j (hj : j < l.length), j < i → l[j].id ≠ x) : x ∉ ids (l.take i) := by
  intro hm
  unfold ids at hm
  obtain ⟨q, hq, e⟩ := List.mem_map.1 hm
  obtain ⟨j, hj, e2⟩ := List.getElem_of_mem hq
  rw [List.length_take] at hj
  rw [List.getElem_take] at e2
  exact h j (by omega) (by omega) (by rw [e2]; exact e)
set_option maxHeartbeats 16000000 in
set_option maxRecDepth 100000 in
theorem rproper_list (A : Option Addr) (c : Nat) (l : List Ord) (w : World) (hr : RdO w A l) (hl : l.length ≤ 1000) (hs : ∀ o ∈ l, Small o) :
    Calls Tryd.prog 19 #[.slice A l.length c] w fun e w' => e = .returned (.bool (prpL l)) ∧ Gr w w' := by
  have HR := Lib.hid hr
  have HSM := Lib.hid (fun j (h : j < l.length) => hs l[j] (List.getElem_mem h))
  have HT := Lib.hid (prpL_take l)
  have HF := Lib.hid (prpL_fall l)
  have HX := Lib.hid (show prpL (l.take l.length) = prpL l by rw [List.take_length])
  clear hr hs
  generalize prpL l = B at *
  go_enter Tryd.func19, Tryd.ntmps19
  go_wp2_with fail
  go_loopw [3, 4] (fun iv _k wj => ∃ i : Nat, i ≤ l.length ∧ iv = .int .i64 i ∧ Hid (prpL (l.take i) = true) ∧ Hid (Gr w wj)) (fun i _ _ => l.length - (intOf i).toNat)
  case atStart => exact ⟨0, by omega, rfl, Lib.hid rfl, Lib.hid (Gr.refl w)⟩
  case round =>
    obtain ⟨i, hi, rfl, HPI, HG⟩ := hrel
    by_cases hlt : i < l.length
    · have HS1 := Lib.hid (HT.out i hlt)
      have z := HSM.out i hlt
      have HM := Lib.hid (fun j (h : j < i) => mem_ids h hlt)
      have HNM := Lib.hid (fun x => not_ids (x := x) hlt)
      obtain ⟨b, off, rfl, hb, q0, q1, q2, q3, q4, q5⟩ := (HR.out.keep HG.out.below).at hlt
      obtain ⟨o, ho⟩ : ∃ o, l[i] = o := ⟨_, rfl⟩
      rw [ho] at q0 q1 q2 q3 q4 q5 z HS1
      have HO := Lib.hid ho
      clear ho
      rw [HPI.out, Bool.true_and] at HS1
      cases h1 : oneB o
      · have HB : Hid (B = false) := Lib.hid (HF.out (i + 1) (by rw [HS1.out, h1]; rfl))
        clear HF HT HX HPI HS1 HM HNM
        go_wp2_with fail
        refine (rone_at h1 _ z).mono ?_
        rintro e w2 ⟨rfl, hg⟩
        have HG2 := Lib.hid (HG.out.trans hg)
        clear hg HG q0 q1 q2 q3 q4 q5
        go_wp2_with fail
        go_ret
        exact ⟨by rw [HB.out]; rfl, HG2.out⟩
      · go_wp2_with fail
        refine (rone_at h1 _ z).mono ?_
        rintro e w2 ⟨rfl, hg⟩
        have HG2 := Lib.hid (HG.out.trans hg)
        have HH1 := Lib.hid h1
        clear hg HG q0 q1 q2 q3 q4 q5 h1 hb
        go_wp2_with fail
        obtain ⟨wo, rfl⟩ : ∃ wo : World, wo = w2 := ⟨_, rfl⟩
        go_loopw [4] (fun kv wj => ∃ k : Nat, k ≤ i ∧ kv = .int .i64 k ∧ Hid (∀ j (hj : j < l.length), j < k → l[j].id ≠ o.id) ∧ Hid (Gr w wj)) (fun k _ => i - (intOf k).toNat)
        case atStart => exact ⟨0, by omega, rfl, Lib.hid (fun j _ h => by omega), HG2⟩
        case round =>
          clear HG2
          obtain ⟨k, hk, rfl, HD, HG3⟩ := hrel
          by_cases hki : k < i
          · have hkl : k < l.length := by omega
            obtain ⟨b2, off2, e2, hb, q0, q1, q2, q3, q4, q5⟩ := (HR.out.keep HG3.out.below).at hlt
            obtain ⟨rfl, rfl⟩ : b = b2 ∧ off = off2 := by injection e2 with e2; injection e2 with e2 e3; exact ⟨e2, e3⟩
            clear e2
            rw [HO.out] at q0 q1 q2 q3 q4 q5
            obtain ⟨b2, off2, e2, _, p0, p1, p2, p3, p4, p5⟩ := (HR.out.keep HG3.out.below).at hkl
            obtain ⟨rfl, rfl⟩ : b = b2 ∧ off = off2 := by injection e2 with e2; injection e2 with e2 e3; exact ⟨e2, e3⟩
            clear e2
            have hi0 : (0 : Int) ≤ (i : Int) := Int.natCast_nonneg _
            have hi1 : (i : Int) < (l.length : Int) := by omega
            have hk0 : (0 : Int) ≤ (k : Int) := Int.natCast_nonneg _
            have hk1 : (k : Int) < (l.length : Int) := by omega
            have HMK := Lib.hid (HM.out k hki)
            obtain ⟨q, hq⟩ : ∃ q, l[k] = q := ⟨_, rfl⟩
            rw [hq] at p0 p1 p2 p3 p4 p5 HMK
            by_cases e : q.id = o.id
            · have HB : Hid (B = false) := Lib.hid (HF.out (i + 1) (by rw [HS1.out, HH1.out, ← e, decide_eq_true HMK.out]; rfl))
              have d1 := bytes_eq e
              clear e hq HF HT HX HPI HS1 HM HNM HD HMK HH1
              go_wp2_with fail
              go_quiet (fail)
              have HG4 := Lib.hid (HG3.out.trans (Gr.drewN wr nq))
              clear HG3
              go_wp2_with fail
              go_ret
              exact ⟨by rw [HB.out]; rfl, HG4.out⟩
            · have HD2 : Hid (∀ j (hj : j < l.length), j < k + 1 → l[j].id ≠ o.id) := Lib.hid (fun j hj hjk => by by_cases ej : j = k; (subst ej; rw [hq]; exact e); exact HD.out j hj (by omega))
              have d1 := bytes_ne e
              clear e hq HMK HD
              go_wp2_with fail
              go_quiet (fail)
              have HG4 := Lib.hid (HG3.out.trans (Gr.drewN wr nq))
              clear HG3
              go_wp2_with fail
              go_roundw
              case rel => exact ⟨k + 1, by omega, by go_num, HD2, HG4⟩
              case measure => simp [intOf]; omega
          · obtain rfl : k = i := by omega
            have HP2 : Hid (prpL (l.take (k + 1)) = true) := Lib.hid (by rw [HS1.out, HH1.out, decide_eq_false (HNM.out o.id HD.out)]; rfl)
            clear HD HM HNM HPI HS1 HH1
            go_wp2_with fail
            go_roundw
            case rel => exact ⟨k + 1, by omega, by go_num, HP2, HG3⟩
            case measure => simp [intOf]; omega
    · obtain rfl : i = l.length := by omega
      have HB : Hid (B = true) := Lib.hid (by rw [← HX.out]; exact HPI.out)
      clear HT HF HX HPI
      go_wp2_with fail
      go_ret
      exact ⟨by rw [HB.out]; rfl, HG.out⟩
theorem otxt_sum (o : Ord) (a b : List UInt8) (h : otxt o = Lib.join [[111, 114, 100, 101, 114], o.id.data.toList, o.pn.data.toList, o.fr.data.toList, o.to.data.toList, a, b] [32]) :
    ((((((((((⟨#[111, 114, 100, 101, 114, 32]⟩ : ByteArray) ++ o.id) ++ ⟨#[32]⟩) ++ o.pn) ++ ⟨#[32]⟩) ++ o.fr) ++ ⟨#[32]⟩) ++ o.to) ++ ⟨#[32]⟩) ++ ⟨a.toArray⟩) ++ ⟨#[32]⟩ ++ ⟨b.toArray⟩ = (⟨(otxt o).toArray⟩ : ByteArray) := by
  rw [h]
  apply ByteArray.ext
  apply Array.toList_inj.1
  simp [Lib.join, List.intercalate, List.intersperse]
set_option maxHeartbeats 4000000 in
set_option maxRecDepth 100000 in
theorem rotext_no (o : Ord) (w : World) (hs : Small o) (h : oneB o = false) : Calls Tryd.prog 15 #[.agg (encO o)] w fun e w' => e = .returned (.tuple #[.string ⟨#[]⟩, .int .i64 1]) ∧ Below w.heap.size w w' := by
  have HO := Lib.hid (fun W => rone_at h W hs)
  clear h
  go_enter Tryd.func15, Tryd.ntmps15
  go_wp2_with fail
  refine (HO.out _).mono ?_
  rintro e w2 ⟨rfl, hg⟩
  have HG := Lib.hid ((Gr.one w (.cells (encO o) 26)).trans hg)
  clear hg
  go_wp2_with fail
  go_ret2
  exact ⟨rfl, HG.out.below⟩
set_option maxHeartbeats 4000000 in
set_option maxRecDepth 100000 in
theorem rotext_yes (o : Ord) (w : World) (h : oneB o = true) : Calls Tryd.prog 15 #[.agg (encO o)] w fun e w' => e = .returned (.tuple #[.string ⟨(otxt o).toArray⟩, .int .i64 0]) ∧ Below w.heap.size w w' := by
  obtain ⟨n1, n2, n3, n4, _, n6⟩ := one_parts h
  have z1 := (nm_size n1).2
  have z2 := (nm_size n2).2
  have z3 := (nm_size n3).2
  have z4 := (nm_size n4).2
  obtain ⟨p1, p2, p3⟩ := (prp_iff (o.pf, o.pu)).1 n6
  dsimp only at p1 p2 p3
  have HO := Lib.hid (fun W => rone_at h W ⟨by omega, by omega, by omega, by omega⟩)
  have HT1 := Lib.hid (fun W => rtext_yes o.pf W p1 p2)
  have l1 := txt_len o.pf p1 p2
  by_cases hu : 0 ≤ o.pu
  · have HT2 := Lib.hid (fun W => rtext_yes o.pu W hu (by omega))
    have l2 := txt_len o.pu hu (by omega)
    have HS := Lib.hid (otxt_sum o (txt o.pf) (txt o.pu) (by unfold otxt unt; rw [if_pos hu]))
    have l1' : (⟨(txt o.pf).toArray⟩ : ByteArray).size ≤ 10 := by show (txt o.pf).toArray.size ≤ 10; simpa using l1
    have l2' : (⟨(txt o.pu).toArray⟩ : ByteArray).size ≤ 10 := by show (txt o.pu).toArray.size ≤ 10; simpa using l2
    clear p3 n1 n2 n3 n4 n6 h l1 l2
    generalize (⟨(otxt o).toArray⟩ : ByteArray) = T at *
    generalize (⟨(txt o.pf).toArray⟩ : ByteArray) = t1 at *
    generalize (⟨(txt o.pu).toArray⟩ : ByteArray) = t2 at *
    go_enter Tryd.func15, Tryd.ntmps15
    go_wp2_with fail
    refine (HO.out _).mono ?_
    rintro e w2 ⟨rfl, hg⟩
    have HG := Lib.hid ((Gr.one w (.cells (encO o) 26)).trans hg)
    obtain ⟨q0, q1, q2, q3, q4, q5⟩ := (At6.made w o 26).below hg.below (by simp)
    clear hg
    go_wp2_with fail
    refine (HT1.out _).mono ?_
    rintro e _ ⟨rfl, rfl⟩
    go_wp2_with fail
    refine (HT2.out _).mono ?_
    rintro e _ ⟨rfl, rfl⟩
    go_wp2_with fail
    go_ret2
    exact ⟨by rw [← HS.out]; rfl, HG.out.below⟩
  · have HS := Lib.hid (otxt_sum o (txt o.pf) [45] (by unfold otxt unt; rw [if_neg hu]))
    have l1' : (⟨(txt o.pf).toArray⟩ : ByteArray).size ≤ 10 := by show (txt o.pf).toArray.size ≤ 10; simpa using l1
    have hu' : o.pu < 0 := by omega
    clear p3 n1 n2 n3 n4 n6 h l1 hu
    generalize (⟨(otxt o).toArray⟩ : ByteArray) = T at *
    generalize (⟨(txt o.pf).toArray⟩ : ByteArray) = t1 at *
    go_enter Tryd.func15, Tryd.ntmps15
    go_wp2_with fail
    refine (HO.out _).mono ?_
    rintro e w2 ⟨rfl, hg⟩
    have HG := Lib.hid ((Gr.one w (.cells (encO o) 26)).trans hg)
    obtain ⟨q0, q1, q2, q3, q4, q5⟩ := (At6.made w o 26).below hg.below (by simp)
    clear hg
    go_wp2_with fail
    refine (HT1.out _).mono ?_
    rintro e _ ⟨rfl, rfl⟩
    go_wp2_with fail
    go_ret2
    exact ⟨by rw [← HS.out]; rfl, HG.out.below⟩
end Go.Proofs.YtngbkdnkpolbfaaDoor
