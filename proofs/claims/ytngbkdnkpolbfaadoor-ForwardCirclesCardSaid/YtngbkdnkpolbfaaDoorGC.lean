/- The walk of the law ForwardCircles. Under the condition that the tables lie in memory as the program lays them. -/
import Derived.Test.YtngbkdnkpolbfaaDoorGQ
import Derived.Deep.RegionHeld3
namespace Go.Proofs.YtngbkdnkpolbfaaDoor
open Go.RowKit Go.Maps

set_option maxRecDepth 100000 in
set_option maxHeartbeats 16000000 in
theorem circles_few (A : Option Addr) (c : Nat) (l : List Ord) (pn door : ByteArray) (day : Int) (w : World) (HL : Hid (LaidT w)) (HR : Hid (RdO w A l)) (HFEW : Hid (fewB l = false)) : Calls Tryd.prog 5 #[.slice A l.length c, .string pn, .string door, .int .i64 day] w (Yes w) := by
  have mixed : Tryd.prog.follows .mixedOrders = true := by kernel_rfl
  go_enter Tryd.func5, Tryd.ntmps5
  go_wp2_with fail
  refine (head_any _ HL.out).mono ?_
  rintro e w1 ⟨rfl, hb⟩
  have T1 := Lib.hid hb
  have R1 := Lib.hid (HR.out.keep hb)
  clear hb
  go_wp2_with fail
  refine (few_at HFEW.out _ R1.out).mono ?_
  rintro e _ ⟨rfl, rfl⟩
  go_wp2_with fail
  go_ret
  exact ⟨rfl, T1.out⟩
set_option maxRecDepth 100000 in
set_option maxHeartbeats 16000000 in
theorem circles_short (A : Option Addr) (c : Nat) (l : List Ord) (pn door : ByteArray) (day : Int) (w : World) (HL : Hid (LaidT w)) (HR : Hid (RdO w A l)) (HFEW : Hid (fewB l = true)) (HSH : Hid (shB pn door = false)) : Calls Tryd.prog 5 #[.slice A l.length c, .string pn, .string door, .int .i64 day] w (Yes w) := by
  have mixed : Tryd.prog.follows .mixedOrders = true := by kernel_rfl
  go_enter Tryd.func5, Tryd.ntmps5
  go_wp2_with fail
  refine (head_any _ HL.out).mono ?_
  rintro e w1 ⟨rfl, hb⟩
  have T1 := Lib.hid hb
  have R1 := Lib.hid (HR.out.keep hb)
  clear hb
  go_wp2_with fail
  refine (few_at HFEW.out _ R1.out).mono ?_
  rintro e _ ⟨rfl, rfl⟩
  go_wp2_with fail
  refine (short_at HSH.out _ (by simp) (by simp)).mono ?_
  rintro e _ ⟨rfl, rfl⟩
  have hb := (Gr.one w1 (.cells #[.string pn, .string door] 9)).below
  have T2 := Lib.hid (T1.out.trans (hb.mono T1.out.size))
  have R2 := Lib.hid (R1.out.keep hb)
  clear T1 R1 hb
  generalize (w1.alloc (.cells #[.string pn, .string door] 9)) = w2 at *
  go_wp2_with fail
  go_ret
  exact ⟨rfl, T2.out⟩
set_option maxRecDepth 100000 in
set_option maxHeartbeats 16000000 in
theorem circles_no (A : Option Addr) (c : Nat) (l : List Ord) (pn door : ByteArray) (day : Int) (w : World) (HL : Hid (LaidT w)) (HR : Hid (RdO w A l)) (HFEW : Hid (fewB l = true)) (HSH : Hid (shB pn door = true)) (HS : Hid (∀ W, LaidT W → RdO W A l → Calls Tryd.prog 12 #[.slice A l.length c, .string pn, .string door, .int .i64 day] W fun e w' => e = .returned (.tuple #[.string ⟨#[]⟩, .slice none 0 0, .int .i64 1]) ∧ Below W.heap.size W w')) : Calls Tryd.prog 5 #[.slice A l.length c, .string pn, .string door, .int .i64 day] w (Yes w) := by
  have mixed : Tryd.prog.follows .mixedOrders = true := by kernel_rfl
  go_enter Tryd.func5, Tryd.ntmps5
  go_wp2_with fail
  refine (head_any _ HL.out).mono ?_
  rintro e w1 ⟨rfl, hb⟩
  have T1 := Lib.hid hb
  have R1 := Lib.hid (HR.out.keep hb)
  clear hb
  go_wp2_with fail
  refine (few_at HFEW.out _ R1.out).mono ?_
  rintro e _ ⟨rfl, rfl⟩
  go_wp2_with fail
  refine (short_at HSH.out _ (by simp) (by simp)).mono ?_
  rintro e _ ⟨rfl, rfl⟩
  have hb := (Gr.one w1 (.cells #[.string pn, .string door] 9)).below
  have T2 := Lib.hid (T1.out.trans (hb.mono T1.out.size))
  have R2 := Lib.hid (R1.out.keep hb)
  clear T1 R1 hb
  generalize (w1.alloc (.cells #[.string pn, .string door] 9)) = w2 at *
  go_wp2_with fail
  refine (HS.out _ (HL.out.keep T2.out) R2.out).mono ?_
  rintro e w3 ⟨rfl, hb⟩
  have T3 := Lib.hid (T2.out.trans (hb.mono T2.out.size))
  clear hb T2 R2
  go_wp2_with fail
  go_ret
  exact ⟨rfl, T3.out⟩
set_option maxRecDepth 100000 in
set_option maxHeartbeats 16000000 in
theorem circles_yes (A : Option Addr) (c : Nat) (l : List Ord) (pn door : ByteArray) (day : Int) (w : World) (HL : Hid (LaidT w)) (HR : Hid (RdO w A l)) (HFEW : Hid (fewB l = true)) (HSH : Hid (shB pn door = true)) (hl : l.length ≤ 30) (HA : Hid (argB l pn door day = true)) (HS : Hid (∀ W, LaidT W → RdO W A l → Calls Tryd.prog 12 #[.slice A l.length c, .string pn, .string door, .int .i64 day] W (SPw (cntO pn day l) door W))) : Calls Tryd.prog 5 #[.slice A l.length c, .string pn, .string door, .int .i64 day] w (Yes w) := by
  have mixed : Tryd.prog.follows .mixedOrders = true := by kernel_rfl
  go_enter Tryd.func5, Tryd.ntmps5
  go_wp2_with fail
  refine (head_any _ HL.out).mono ?_
  rintro e w1 ⟨rfl, hb⟩
  have T1 := Lib.hid hb
  have R1 := Lib.hid (HR.out.keep hb)
  clear hb
  go_wp2_with fail
  refine (few_at HFEW.out _ R1.out).mono ?_
  rintro e _ ⟨rfl, rfl⟩
  go_wp2_with fail
  refine (short_at HSH.out _ (by simp) (by simp)).mono ?_
  rintro e _ ⟨rfl, rfl⟩
  have hb := (Gr.one w1 (.cells #[.string pn, .string door] 9)).below
  have T2 := Lib.hid (T1.out.trans (hb.mono T1.out.size))
  have R2 := Lib.hid (R1.out.keep hb)
  clear T1 R1 hb
  generalize (w1.alloc (.cells #[.string pn, .string door] 9)) = w2 at *
  go_wp2_with fail
  refine (HS.out _ (HL.out.keep T2.out) R2.out).mono ?_
  rintro e w3 ⟨way, t, B, cc, rfl, hE, hcc, hR, hb⟩
  have T3 := Lib.hid (T2.out.trans (hb.mono T2.out.size))
  have M3 : Hid (LI w A l B (ids way) w3) := Lib.hid ⟨R2.out.keep hb, hR, T3.out⟩
  have HE := Lib.hid hE
  clear hb hR T2 R2 hE
  have hw : way.length ≤ 30 := Nat.le_trans (way_len HE.out) hl
  have HP := Lib.hid (arg_prp HA.out)
  have HSG := Lib.hid (fun W x (hL : LaidT W) (hr : RdO W A l) (hx : nmB x = true) (h : ∃ way', Ends Ord.fr Ord.to nwB (cntO pn day l) x way' t) => settle_go A c l pn x t day W hL.1 hr HFEW.out (arg_of HA.out hx) h)
  go_wp2_with fail
  refine (HSG.out _ t (HL.out.keep M3.out.2.2) M3.out.1 (ends_nm HP.out (arg_door HA.out) HE.out) (ends_stay HP.out HE.out)).mono ?_
  rintro e w4 ⟨A9, n9, c9, rfl, hb⟩
  have M4 := Lib.hid (M3.out.keep hb)
  clear M3 hb T3
  by_cases h0 : way.length = 0
  · obtain rfl : way = [] := List.eq_nil_of_length_eq_zero h0
    obtain rfl : t = door := ends_nil HE.out
    go_wp2_with fail
    go_ret
    exact ⟨rfl, M4.out.2.2⟩
  · obtain ⟨m, hm⟩ : ∃ m, way.length = m + 1 := ⟨way.length - 1, by omega⟩
    have HM := Lib.hid hm
    rw [hm]
    rw [hm] at hcc hw
    clear h0 hm
    have hml : m < way.length := by rw [HM.out]; omega
    have hms : m < (ids way).length := by simp [ids]; omega
    obtain ⟨k9, hk9, hk⟩ := mem_at (way_mem HE.out (List.getElem_mem hml))
    have HK9 := Lib.hid hk
    clear hk
    obtain ⟨b, off, rfl, hb, _⟩ := M4.out.1.at hk9
    obtain ⟨b', off', rfl, hb', r0⟩ := M4.out.2.1.at hms
    rw [show (ids way)[m] = way[m].id by simp [ids]] at r0
    have HEL := Lib.hid (endAt_last (door := door) HM.out)
    obtain ⟨z, hz⟩ : ∃ z, way[m] = z := ⟨_, rfl⟩
    rw [hz] at r0 HK9 HEL
    clear hz hb hb'
    have HF := Lib.hid (find_at (some ⟨b, off, none⟩) c l w4 M4.out.1 (by omega) (prp_nodup HP.out) k9 hk9 z.id (by rw [HK9.out]))
    go_wp2_with fail
    refine HF.out.mono ?_
    rintro e _ ⟨rfl, rfl⟩
    clear HF r0
    go_wp2_with fail
    go_loopw [17, 18, 19] (fun bv iv _k wj => ∃ i : Nat, i ≤ m + 1 ∧ iv = .int .i64 i ∧ ∃ bi : Int, bv = .int .i64 bi ∧ Hid (Beg way z.to i bi) ∧ Hid (LI w (some ⟨b, off, none⟩) l (some ⟨b', off', none⟩) (ids way) wj)) (fun _ i _ _ => m + 1 - (intOf i).toNat)
    case atStart => exact ⟨0, by omega, rfl, -1, rfl, Lib.hid (Beg.start way z.to), M4⟩
    case round =>
      clear M4
      obtain ⟨i, hi, rfl, bi, rfl, HB, M⟩ := hrel
      by_cases hlt : i < m + 1
      · have hlw : i < way.length := by rw [HM.out]; exact hlt
        have hsi : i < (ids way).length := by simp [ids]; omega
        obtain ⟨kk, hkk, hk⟩ := mem_at (way_mem HE.out (List.getElem_mem hlw))
        obtain ⟨b2, off2, e2, hb', r0⟩ := M.out.2.1.at hsi
        obtain ⟨rfl, rfl⟩ : b' = b2 ∧ off' = off2 := by injection e2 with e2; injection e2 with e2 e3; exact ⟨e2, e3⟩
        clear e2
        rw [show (ids way)[i] = way[i].id by simp [ids]] at r0
        have HK := Lib.hid hk
        obtain ⟨o, ho⟩ : ∃ o, way[i] = o := ⟨_, rfl⟩
        have HO := Lib.hid ho
        rw [ho] at r0 HK
        clear ho hk
        have HF := Lib.hid (find_at (some ⟨b, off, none⟩) c l wr M.out.1 (by omega) (prp_nodup HP.out) kk hkk o.id (by rw [HK.out]))
        go_wp2_with fail
        refine HF.out.mono ?_
        rintro e _ ⟨rfl, rfl⟩
        clear HF r0 hb'
        obtain ⟨b2, off2, e2, hb, q0, q1, q2, q3, q4, q5⟩ := M.out.1.at hkk
        obtain ⟨rfl, rfl⟩ : b = b2 ∧ off = off2 := by injection e2 with e2; injection e2 with e2 e3; exact ⟨e2, e3⟩
        clear e2
        rw [HK.out] at q0 q1 q2 q3 q4 q5
        clear hb
        obtain ⟨b2, off2, e2, hb, p0, p1, p2, p3, p4, p5⟩ := M.out.1.at hk9
        obtain ⟨rfl, rfl⟩ : b = b2 ∧ off = off2 := by injection e2 with e2; injection e2 with e2 e3; exact ⟨e2, e3⟩
        clear e2
        rw [HK9.out] at p0 p1 p2 p3 p4 p5
        clear hb
        have hi0 : (0 : Int) ≤ (kk : Int) := Int.natCast_nonneg _
        have hi1 : (kk : Int) < (l.length : Int) := by omega
        have hi2 : (0 : Int) ≤ (k9 : Int) := Int.natCast_nonneg _
        have hi3 : (k9 : Int) < (l.length : Int) := by omega
        by_cases e : o.fr = z.to
        · have d1 := bytes_eq e
          have HB2 := Lib.hid (Beg.hit hlw (show way[i].fr = z.to by rw [HO.out]; exact e))
          clear e HB
          go_wp2_with fail
          go_quiet (fail)
          have M6 := Lib.hid (M.out.gr (Gr.drewN wr nq))
          clear M
          go_wp2_with fail
          go_roundw
          case rel => exact ⟨i + 1, by omega, by go_num, _, rfl, HB2, M6⟩
          case measure => simp [intOf]; omega
        · have d1 := bytes_ne e
          have HB2 := Lib.hid (HB.out.miss hlw (show way[i].fr ≠ z.to by rw [HO.out]; exact e))
          clear e HB
          go_wp2_with fail
          go_quiet (fail)
          have M6 := Lib.hid (M.out.gr (Gr.drewN wr nq))
          clear M
          go_wp2_with fail
          go_roundw
          case rel => exact ⟨i + 1, by omega, by go_num, _, rfl, HB2, M6⟩
          case measure => simp [intOf]; omega
      · obtain rfl : i = m + 1 := by omega
        rcases HB.out with ⟨rfl, hno⟩ | ⟨p, hp, hpi, rfl, hpx⟩
        · obtain rfl : t = z.to := ends_open HE.out HEL.out (fun j hj _ => hno j hj (by rw [← HM.out]; exact hj))
          clear hno HB
          obtain ⟨b2, off2, e2, hb, p0, p1, p2, p3, p4, p5⟩ := M.out.1.at hk9
          obtain ⟨rfl, rfl⟩ : b = b2 ∧ off = off2 := by injection e2 with e2; injection e2 with e2 e3; exact ⟨e2, e3⟩
          clear e2
          rw [HK9.out] at p0 p1 p2 p3 p4 p5
          go_wp2_with fail
          go_ret
          exact ⟨rfl, M.out.2.2⟩
        · have HBX := Lib.hid (bst_end HE.out p hp (by rw [HEL.out]; exact hpx))
          have HST := Lib.hid (bst_at way p hp)
          have HBS := Lib.hid (fun i (h1 : p ≤ i) (h2 : i < way.length) => bst_step way p hp h1 h2)
          have HMB := Lib.hid (fun i (h1 : p ≤ i) (h2 : i < way.length) => ends_go HP.out HE.out h2)
          have hp0 : ¬ (p : Int) < 0 := by omega
          have hpm : p ≤ m := by omega
          clear HB hpx
          have hsp : p < (ids way).length := by simp [ids]; omega
          obtain ⟨kp, hkp, hk⟩ := mem_at (way_mem HE.out (List.getElem_mem hp))
          obtain ⟨b2, off2, e2, hb', r0⟩ := M.out.2.1.at hsp
          obtain ⟨rfl, rfl⟩ : b' = b2 ∧ off' = off2 := by injection e2 with e2; injection e2 with e2 e3; exact ⟨e2, e3⟩
          clear e2
          rw [show (ids way)[p] = way[p].id by simp [ids]] at r0
          rw [← HST.out] at hk
          rw [← HST.out] at r0
          have HKP := Lib.hid hk
          clear hk hb'
          have HF := Lib.hid (find_at (some ⟨b, off, none⟩) c l wr M.out.1 (by omega) (prp_nodup HP.out) kp hkp (bst way p hp p).id (by rw [HKP.out]))
          obtain ⟨wo, rfl⟩ : ∃ wo : World, wo = wr := ⟨_, rfl⟩
          go_wp2_with fail
          refine HF.out.mono ?_
          rintro e _ ⟨rfl, rfl⟩
          clear HF r0
          go_wp2_with fail
          go_loopw [20, 21, 22, 23, 24, 25] (fun bv iv _k _x _y _z wj => ∃ i : Nat, p ≤ i ∧ i ≤ m + 1 ∧ iv = .int .i64 i ∧ ∃ kb : Nat, bv = .int .i64 kb ∧ Hid (∃ h : kb < l.length, l[kb] = bst way p hp i) ∧ Hid (LI w (some ⟨b, off, none⟩) l (some ⟨b', off', none⟩) (ids way) wj)) (fun _ i _ _ _ _ _ => m + 1 - (intOf i).toNat)
          case atStart => exact ⟨p, by omega, by omega, rfl, kp, rfl, Lib.hid ⟨hkp, HKP.out⟩, M⟩
          case round =>
            clear M hp0 HKP hkp
            obtain ⟨i, hpi2, hi, rfl, kb, rfl, HKB, M⟩ := hrel
            obtain ⟨hkb, hkb2⟩ := HKB.out
            have HB1 := Lib.hid hkb2
            clear hkb2 HKB
            by_cases hlt : i < m + 1
            · have hlw : i < way.length := by rw [HM.out]; exact hlt
              have hsi : i < (ids way).length := by simp [ids]; omega
              obtain ⟨kk, hkk, hk⟩ := mem_at (way_mem HE.out (List.getElem_mem hlw))
              obtain ⟨b2, off2, e2, hb', r0⟩ := M.out.2.1.at hsi
              obtain ⟨rfl, rfl⟩ : b' = b2 ∧ off' = off2 := by injection e2 with e2; injection e2 with e2 e3; exact ⟨e2, e3⟩
              clear e2
              rw [show (ids way)[i] = way[i].id by simp [ids]] at r0
              have HK := Lib.hid hk
              obtain ⟨o, ho⟩ : ∃ o, way[i] = o := ⟨_, rfl⟩
              have HO := Lib.hid ho
              rw [ho] at r0 HK
              clear ho hk
              have HF := Lib.hid (find_at (some ⟨b, off, none⟩) c l wr M.out.1 (by omega) (prp_nodup HP.out) kk hkk o.id (by rw [HK.out]))
              go_wp2_with fail
              refine HF.out.mono ?_
              rintro e _ ⟨rfl, rfl⟩
              clear HF r0 hb'
              obtain ⟨b2, off2, e2, hb, q0, q1, q2, q3, q4, q5⟩ := M.out.1.at hkk
              obtain ⟨rfl, rfl⟩ : b = b2 ∧ off = off2 := by injection e2 with e2; injection e2 with e2 e3; exact ⟨e2, e3⟩
              clear e2
              rw [HK.out] at q0 q1 q2 q3 q4 q5
              clear hb
              have HSTP := Lib.hid (HBS.out i hpi2 hlw)
              obtain ⟨y, hy⟩ : ∃ y, bst way p hp i = y := ⟨_, rfl⟩
              rw [hy] at HB1 HSTP
              simp only [HO.out] at HSTP
              clear hy
              obtain ⟨b2, off2, e2, hb, p0, p1, p2, p3, p4, p5⟩ := M.out.1.at hkb
              obtain ⟨rfl, rfl⟩ : b = b2 ∧ off = off2 := by injection e2 with e2; injection e2 with e2 e3; exact ⟨e2, e3⟩
              clear e2
              rw [HB1.out] at p0 p1 p2 p3 p4 p5
              cases hn : nwB o y
              · have HB2 : Hid (∃ h : kb < l.length, l[kb] = bst way p hp (i + 1)) := Lib.hid ⟨hkb, by rw [HSTP.out, hn]; exact HB1.out⟩
                have hnn := hn
                clear hn
                have gr0 : ∀ n os, (Sort.grow (wr.drewN n) os).cell? ⟨b, off + kk * 6, none⟩ = some (.string o.id) := fun n os => cell_grown hb (by assumption) n os
                have gr1 : ∀ n os, (Sort.grow (wr.drewN n) os).cell? ⟨b, off + kk * 6 + 1, none⟩ = some (.string o.pn) := fun n os => cell_grown hb (by assumption) n os
                have gr2 : ∀ n os, (Sort.grow (wr.drewN n) os).cell? ⟨b, off + kk * 6 + 2, none⟩ = some (.string o.fr) := fun n os => cell_grown hb (by assumption) n os
                have gr3 : ∀ n os, (Sort.grow (wr.drewN n) os).cell? ⟨b, off + kk * 6 + 3, none⟩ = some (.string o.to) := fun n os => cell_grown hb (by assumption) n os
                have gr4 : ∀ n os, (Sort.grow (wr.drewN n) os).cell? ⟨b, off + kk * 6 + 4, none⟩ = some (.int .i64 o.pf) := fun n os => cell_grown hb (by assumption) n os
                have gr5 : ∀ n os, (Sort.grow (wr.drewN n) os).cell? ⟨b, off + kk * 6 + 5, none⟩ = some (.int .i64 o.pu) := fun n os => cell_grown hb (by assumption) n os
                have gr6 : ∀ n os, (Sort.grow (wr.drewN n) os).cell? ⟨b, off + kb * 6, none⟩ = some (.string y.id) := fun n os => cell_grown hb (by assumption) n os
                have gr7 : ∀ n os, (Sort.grow (wr.drewN n) os).cell? ⟨b, off + kb * 6 + 1, none⟩ = some (.string y.pn) := fun n os => cell_grown hb (by assumption) n os
                have gr8 : ∀ n os, (Sort.grow (wr.drewN n) os).cell? ⟨b, off + kb * 6 + 2, none⟩ = some (.string y.fr) := fun n os => cell_grown hb (by assumption) n os
                have gr9 : ∀ n os, (Sort.grow (wr.drewN n) os).cell? ⟨b, off + kb * 6 + 3, none⟩ = some (.string y.to) := fun n os => cell_grown hb (by assumption) n os
                have gr10 : ∀ n os, (Sort.grow (wr.drewN n) os).cell? ⟨b, off + kb * 6 + 4, none⟩ = some (.int .i64 y.pf) := fun n os => cell_grown hb (by assumption) n os
                have gr11 : ∀ n os, (Sort.grow (wr.drewN n) os).cell? ⟨b, off + kb * 6 + 5, none⟩ = some (.int .i64 y.pu) := fun n os => cell_grown hb (by assumption) n os
                have hi0a : (0 : Int) ≤ (kk : Int) := Int.natCast_nonneg _
                have hi0b : (kk : Int) < (l.length : Int) := by omega
                have hi1a : (0 : Int) ≤ (kb : Int) := Int.natCast_nonneg _
                have hi1b : (kb : Int) < (l.length : Int) := by omega
                clear p0 p1 p2 p3 p4 p5 q0 q1 q2 q3 q4 q5
                go_wp2_with fail
                refine wp_region_quiet_grown (by assumption) (by kernel_rfl) ?_
                repeat (first | go_big_quiet_skip | quiet_step ((first | (go_at_call 23; exact Calls.grown_of (rnewer_at hnn _)))))
                refine wpQuiet_nil ?_
                intro _ hw'
                obtain ⟨⟨nq, osq⟩, hw''⟩ := hw'
                subst hw''
                dsimp only
                have M6 := Lib.hid (M.out.gr ⟨nq, osq, rfl⟩)
                clear M gr0 gr1 gr2 gr3 gr4 gr5 gr6 gr7 gr8 gr9 gr10 gr11
                have hnm : nmB o.fr = true := (one_parts (prp_all HP.out o (by rw [← HK.out]; exact List.getElem_mem _))).2.2.1
                have HNM := Lib.hid hnm
                clear hnm
                obtain ⟨b2, off2, e2, hb, q0, q1, q2, q3, q4, q5⟩ := M6.out.1.at hkk
                obtain ⟨rfl, rfl⟩ : b = b2 ∧ off = off2 := by injection e2 with e2; injection e2 with e2 e3; exact ⟨e2, e3⟩
                clear e2
                rw [HK.out] at q0 q1 q2 q3 q4 q5
                go_wp2_with fail
                refine (HSG.out _ o.fr (HL.out.keep M6.out.2.2) M6.out.1 HNM.out (by have h := HMB.out i hpi2 hlw; rwa [HO.out] at h)).mono ?_
                rintro e w7 ⟨A7, n7, c7, rfl, hb⟩
                have M8 := Lib.hid (M6.out.keep hb)
                clear M6 hb q0 q1 q2 q3 q4 q5
                go_wp2_with fail
                go_roundw
                case rel => exact ⟨i + 1, by omega, by omega, by go_num, _, rfl, HB2, M8⟩
                case measure => simp [intOf]; omega
              · have HB2 : Hid (∃ h : kk < l.length, l[kk] = bst way p hp (i + 1)) := Lib.hid ⟨hkk, by rw [HSTP.out, hn]; exact HK.out⟩
                have hnn := hn
                clear hn
                have gr0 : ∀ n os, (Sort.grow (wr.drewN n) os).cell? ⟨b, off + kk * 6, none⟩ = some (.string o.id) := fun n os => cell_grown hb (by assumption) n os
                have gr1 : ∀ n os, (Sort.grow (wr.drewN n) os).cell? ⟨b, off + kk * 6 + 1, none⟩ = some (.string o.pn) := fun n os => cell_grown hb (by assumption) n os
                have gr2 : ∀ n os, (Sort.grow (wr.drewN n) os).cell? ⟨b, off + kk * 6 + 2, none⟩ = some (.string o.fr) := fun n os => cell_grown hb (by assumption) n os
                have gr3 : ∀ n os, (Sort.grow (wr.drewN n) os).cell? ⟨b, off + kk * 6 + 3, none⟩ = some (.string o.to) := fun n os => cell_grown hb (by assumption) n os
                have gr4 : ∀ n os, (Sort.grow (wr.drewN n) os).cell? ⟨b, off + kk * 6 + 4, none⟩ = some (.int .i64 o.pf) := fun n os => cell_grown hb (by assumption) n os
                have gr5 : ∀ n os, (Sort.grow (wr.drewN n) os).cell? ⟨b, off + kk * 6 + 5, none⟩ = some (.int .i64 o.pu) := fun n os => cell_grown hb (by assumption) n os
                have gr6 : ∀ n os, (Sort.grow (wr.drewN n) os).cell? ⟨b, off + kb * 6, none⟩ = some (.string y.id) := fun n os => cell_grown hb (by assumption) n os
                have gr7 : ∀ n os, (Sort.grow (wr.drewN n) os).cell? ⟨b, off + kb * 6 + 1, none⟩ = some (.string y.pn) := fun n os => cell_grown hb (by assumption) n os
                have gr8 : ∀ n os, (Sort.grow (wr.drewN n) os).cell? ⟨b, off + kb * 6 + 2, none⟩ = some (.string y.fr) := fun n os => cell_grown hb (by assumption) n os
                have gr9 : ∀ n os, (Sort.grow (wr.drewN n) os).cell? ⟨b, off + kb * 6 + 3, none⟩ = some (.string y.to) := fun n os => cell_grown hb (by assumption) n os
                have gr10 : ∀ n os, (Sort.grow (wr.drewN n) os).cell? ⟨b, off + kb * 6 + 4, none⟩ = some (.int .i64 y.pf) := fun n os => cell_grown hb (by assumption) n os
                have gr11 : ∀ n os, (Sort.grow (wr.drewN n) os).cell? ⟨b, off + kb * 6 + 5, none⟩ = some (.int .i64 y.pu) := fun n os => cell_grown hb (by assumption) n os
                have hi0a : (0 : Int) ≤ (kk : Int) := Int.natCast_nonneg _
                have hi0b : (kk : Int) < (l.length : Int) := by omega
                have hi1a : (0 : Int) ≤ (kb : Int) := Int.natCast_nonneg _
                have hi1b : (kb : Int) < (l.length : Int) := by omega
                clear p0 p1 p2 p3 p4 p5 q0 q1 q2 q3 q4 q5
                go_wp2_with fail
                refine wp_region_quiet_grown (by assumption) (by kernel_rfl) ?_
                repeat (first | go_big_quiet_skip | quiet_step ((first | (go_at_call 23; exact Calls.grown_of (rnewer_at hnn _)))))
                refine wpQuiet_nil ?_
                intro _ hw'
                obtain ⟨⟨nq, osq⟩, hw''⟩ := hw'
                subst hw''
                dsimp only
                have M6 := Lib.hid (M.out.gr ⟨nq, osq, rfl⟩)
                clear M gr0 gr1 gr2 gr3 gr4 gr5 gr6 gr7 gr8 gr9 gr10 gr11
                have hnm : nmB o.fr = true := (one_parts (prp_all HP.out o (by rw [← HK.out]; exact List.getElem_mem _))).2.2.1
                have HNM := Lib.hid hnm
                clear hnm
                obtain ⟨b2, off2, e2, hb, q0, q1, q2, q3, q4, q5⟩ := M6.out.1.at hkk
                obtain ⟨rfl, rfl⟩ : b = b2 ∧ off = off2 := by injection e2 with e2; injection e2 with e2 e3; exact ⟨e2, e3⟩
                clear e2
                rw [HK.out] at q0 q1 q2 q3 q4 q5
                go_wp2_with fail
                refine (HSG.out _ o.fr (HL.out.keep M6.out.2.2) M6.out.1 HNM.out (by have h := HMB.out i hpi2 hlw; rwa [HO.out] at h)).mono ?_
                rintro e w7 ⟨A7, n7, c7, rfl, hb⟩
                have M8 := Lib.hid (M6.out.keep hb)
                clear M6 hb q0 q1 q2 q3 q4 q5
                go_wp2_with fail
                go_roundw
                case rel => exact ⟨i + 1, by omega, by omega, by go_num, _, rfl, HB2, M8⟩
                case measure => simp [intOf]; omega
            · obtain rfl : i = m + 1 := by omega
              have HTT := Lib.hid (show t = (bst way p hp (m + 1)).to by have h := HBX.out; rwa [HM.out] at h)
              obtain ⟨b2, off2, e2, hb, p0, p1, p2, p3, p4, p5⟩ := M.out.1.at hkb
              obtain ⟨rfl, rfl⟩ : b = b2 ∧ off = off2 := by injection e2 with e2; injection e2 with e2 e3; exact ⟨e2, e3⟩
              clear e2
              rw [HB1.out] at p0 p1 p2 p3 p4 p5
              obtain ⟨y, hy⟩ : ∃ y, bst way p hp (m + 1) = y := ⟨_, rfl⟩
              rw [hy] at p0 p1 p2 p3 p4 p5 HTT
              clear hy
              obtain rfl := HTT.out
              go_wp2_with fail
              go_ret
              exact ⟨rfl, M.out.2.2⟩
theorem circles_walk (A : Option Addr) (l : List Ord) (c : Nat) (pn door : ByteArray) (day : Int) (w : World) (hL : LaidT w) (hR : RdO w A l) : Calls Tryd.prog 5 #[.slice A l.length c, .string pn, .string door, .int .i64 day] w (Yes w) := by
  cases hf : fewB l
  · exact circles_few A c l pn door day w (Lib.hid hL) (Lib.hid hR) (Lib.hid hf)
  cases hs : shB pn door
  · exact circles_short A c l pn door day w (Lib.hid hL) (Lib.hid hR) (Lib.hid hf) (Lib.hid hs)
  have zz : pn.size ≤ 60 ∧ door.size ≤ 60 := of_decide_eq_true hs
  cases ha : argB l pn door day
  · exact circles_no A c l pn door day w (Lib.hid hL) (Lib.hid hR) (Lib.hid hf) (Lib.hid hs) (Lib.hid fun W hL hr => settle_no A c l pn door day W hL.1 hr (by have := few_len hf; omega) (fun o ho => by have k := few_mem hf ho; exact ⟨by omega, by omega, by omega, by omega⟩) (by omega) (by omega) ha)
  · exact circles_yes A c l pn door day w (Lib.hid hL) (Lib.hid hR) (Lib.hid hf) (Lib.hid hs) (few_len hf) (Lib.hid ha) (Lib.hid fun W hL hr => settle_w A c l pn door day W hL.1 hr hf ha)
end Go.Proofs.YtngbkdnkpolbfaaDoor
