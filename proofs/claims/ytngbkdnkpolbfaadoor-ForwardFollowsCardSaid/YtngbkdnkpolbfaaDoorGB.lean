/- The walk of the law ForwardFollows. Under the condition that the tables lie in memory as the program lays them. -/
import Derived.Test.YtngbkdnkpolbfaaDoorGP
import Derived.Deep.RegionHeld3
namespace Go.Proofs.YtngbkdnkpolbfaaDoor
open Go.RowKit Go.Maps

set_option maxRecDepth 100000 in
set_option maxHeartbeats 16000000 in
theorem follows_few (A : Option Addr) (c : Nat) (l : List Ord) (pn door : ByteArray) (day : Int) (w : World) (HL : Hid (LaidT w)) (HR : Hid (RdO w A l)) (HFEW : Hid (fewB l = false)) : Calls Tryd.prog 4 #[.slice A l.length c, .string pn, .string door, .int .i64 day] w (Yes w) := by
  have mixed : Tryd.prog.follows .mixedOrders = true := by kernel_rfl
  go_enter Tryd.func4, Tryd.ntmps4
  go_wp2_with fail
  refine (head_any _ HL.out).mono ?_
  rintro e w1 ⟨rfl, hb⟩
  have T1 := Lib.hid hb
  have R1 := Lib.hid (HR.out.keep hb)
  clear hb
  go_wp2_with fail
  refine (few_at HFEW.out _ R1.out).mono ?_
  rintro e _ ⟨rfl, rfl⟩
  go_wp2_with fail
  go_ret
  exact ⟨rfl, T1.out⟩
set_option maxRecDepth 100000 in
set_option maxHeartbeats 16000000 in
theorem follows_short (A : Option Addr) (c : Nat) (l : List Ord) (pn door : ByteArray) (day : Int) (w : World) (HL : Hid (LaidT w)) (HR : Hid (RdO w A l)) (HFEW : Hid (fewB l = true)) (HSH : Hid (shB pn door = false)) : Calls Tryd.prog 4 #[.slice A l.length c, .string pn, .string door, .int .i64 day] w (Yes w) := by
  have mixed : Tryd.prog.follows .mixedOrders = true := by kernel_rfl
  go_enter Tryd.func4, Tryd.ntmps4
  go_wp2_with fail
  refine (head_any _ HL.out).mono ?_
  rintro e w1 ⟨rfl, hb⟩
  have T1 := Lib.hid hb
  have R1 := Lib.hid (HR.out.keep hb)
  clear hb
  go_wp2_with fail
  refine (few_at HFEW.out _ R1.out).mono ?_
  rintro e _ ⟨rfl, rfl⟩
  go_wp2_with fail
  refine (short_at HSH.out _ (by simp) (by simp)).mono ?_
  rintro e _ ⟨rfl, rfl⟩
  have hb := (Gr.one w1 (.cells #[.string pn, .string door] 9)).below
  have T2 := Lib.hid (T1.out.trans (hb.mono T1.out.size))
  have R2 := Lib.hid (R1.out.keep hb)
  clear T1 R1 hb
  generalize (w1.alloc (.cells #[.string pn, .string door] 9)) = w2 at *
  go_wp2_with fail
  go_ret
  exact ⟨rfl, T2.out⟩
set_option maxRecDepth 100000 in
set_option maxHeartbeats 16000000 in
theorem follows_no (A : Option Addr) (c : Nat) (l : List Ord) (pn door : ByteArray) (day : Int) (w : World) (HL : Hid (LaidT w)) (HR : Hid (RdO w A l)) (HFEW : Hid (fewB l = true)) (HSH : Hid (shB pn door = true)) (HS : Hid (∀ W, LaidT W → RdO W A l → Calls Tryd.prog 12 #[.slice A l.length c, .string pn, .string door, .int .i64 day] W fun e w' => e = .returned (.tuple #[.string ⟨#[]⟩, .slice none 0 0, .int .i64 1]) ∧ Below W.heap.size W w')) : Calls Tryd.prog 4 #[.slice A l.length c, .string pn, .string door, .int .i64 day] w (Yes w) := by
  have mixed : Tryd.prog.follows .mixedOrders = true := by kernel_rfl
  go_enter Tryd.func4, Tryd.ntmps4
  go_wp2_with fail
  refine (head_any _ HL.out).mono ?_
  rintro e w1 ⟨rfl, hb⟩
  have T1 := Lib.hid hb
  have R1 := Lib.hid (HR.out.keep hb)
  clear hb
  go_wp2_with fail
  refine (few_at HFEW.out _ R1.out).mono ?_
  rintro e _ ⟨rfl, rfl⟩
  go_wp2_with fail
  refine (short_at HSH.out _ (by simp) (by simp)).mono ?_
  rintro e _ ⟨rfl, rfl⟩
  have hb := (Gr.one w1 (.cells #[.string pn, .string door] 9)).below
  have T2 := Lib.hid (T1.out.trans (hb.mono T1.out.size))
  have R2 := Lib.hid (R1.out.keep hb)
  clear T1 R1 hb
  generalize (w1.alloc (.cells #[.string pn, .string door] 9)) = w2 at *
  go_wp2_with fail
  refine (HS.out _ (HL.out.keep T2.out) R2.out).mono ?_
  rintro e w3 ⟨rfl, hb⟩
  have T3 := Lib.hid (T2.out.trans (hb.mono T2.out.size))
  clear hb T2 R2
  go_wp2_with fail
  go_ret
  exact ⟨rfl, T3.out⟩
set_option maxRecDepth 100000 in
set_option maxHeartbeats 16000000 in
theorem follows_yes (A : Option Addr) (c : Nat) (l : List Ord) (pn door : ByteArray) (day : Int) (w : World) (HL : Hid (LaidT w)) (HR : Hid (RdO w A l)) (HFEW : Hid (fewB l = true)) (HSH : Hid (shB pn door = true)) (hl : l.length ≤ 30) (HP : Hid (prpL l = true)) (HS : Hid (∀ W, LaidT W → RdO W A l → Calls Tryd.prog 12 #[.slice A l.length c, .string pn, .string door, .int .i64 day] W (SPw (cntO pn day l) door W))) : Calls Tryd.prog 4 #[.slice A l.length c, .string pn, .string door, .int .i64 day] w (Yes w) := by
  have mixed : Tryd.prog.follows .mixedOrders = true := by kernel_rfl
  go_enter Tryd.func4, Tryd.ntmps4
  go_wp2_with fail
  refine (head_any _ HL.out).mono ?_
  rintro e w1 ⟨rfl, hb⟩
  have T1 := Lib.hid hb
  have R1 := Lib.hid (HR.out.keep hb)
  clear hb
  go_wp2_with fail
  refine (few_at HFEW.out _ R1.out).mono ?_
  rintro e _ ⟨rfl, rfl⟩
  go_wp2_with fail
  refine (short_at HSH.out _ (by simp) (by simp)).mono ?_
  rintro e _ ⟨rfl, rfl⟩
  have hb := (Gr.one w1 (.cells #[.string pn, .string door] 9)).below
  have T2 := Lib.hid (T1.out.trans (hb.mono T1.out.size))
  have R2 := Lib.hid (R1.out.keep hb)
  clear T1 R1 hb
  generalize (w1.alloc (.cells #[.string pn, .string door] 9)) = w2 at *
  go_wp2_with fail
  refine (HS.out _ (HL.out.keep T2.out) R2.out).mono ?_
  rintro e w3 ⟨way, t, B, cc, rfl, hE, hcc, hR, hb⟩
  have T3 := Lib.hid (T2.out.trans (hb.mono T2.out.size))
  have M3 : Hid (LI w A l B (ids way) w3) := Lib.hid ⟨R2.out.keep hb, hR, T3.out⟩
  have HE := Lib.hid hE
  clear hb hR T2 R2 hE
  have hw : way.length ≤ 30 := Nat.le_trans (way_len HE.out) hl
  go_wp2_with fail
  go_loopw [13, 15, 16, 17, 18] (fun xv iv _k _j _j' wr => ∃ i : Nat, i ≤ way.length ∧ iv = .int .i64 i ∧ ∃ x, xv = .string x ∧ Hid (x = endAt Ord.to door (way.take i)) ∧ Hid (LI w A l B (ids way) wr)) (fun _ i _ _ _ _ => way.length - (intOf i).toNat)
  case atStart => exact ⟨0, by omega, rfl, door, rfl, Lib.hid rfl, M3⟩
  case round =>
    clear M3
    obtain ⟨i, hi, rfl, x, rfl, HX, M⟩ := hrel
    by_cases hlt : i < way.length
    · obtain ⟨s1, s2, s3, s4, s5⟩ := way_step HE.out.1 i hlt
      obtain ⟨kk, hkk, hk⟩ := mem_at s1
      have HN := Lib.hid (endAt_take (x := door) hlt)
      have HI := Lib.hid (fun j (hj : j < i) => way_ids (prp_nodup HP.out) (fun o ho => way_mem HE.out ho) HE.out.2.1 hj hlt)
      have hid := ids_at way i hlt
      rw [← HX.out] at s4 s5
      obtain ⟨o, ho⟩ : ∃ o, way[i] = o := ⟨_, rfl⟩
      have HIO := Lib.hid (congrArg Ord.id ho)
      rw [ho] at s1 s2 s3 s4 s5 hk HN HI hid
      subst s4
      have HF := Lib.hid (find_at A c l wr M.out.1 (by omega) (prp_nodup HP.out) kk hkk o.id (by rw [hk]))
      have b1 := bytes_eq s2
      have HC := Lib.hid s3
      have HQ := Lib.hid s5
      have hsi : i < (ids way).length := by simpa [ids] using hlt
      obtain ⟨b, off, rfl, hb, q0, q1, q2, q3, q4, q5⟩ := M.out.1.at hkk
      obtain ⟨b', off', rfl, hb', r0⟩ := M.out.2.1.at hsi
      have hid' : (ids way)[i] = o.id := by rw [List.getElem?_eq_getElem hsi] at hid; exact Option.some.inj hid
      rw [hid'] at r0
      rw [hk] at q0 q1 q2 q3 q4 q5
      have HK := Lib.hid hk
      clear s1 s2 s3 s5 hid hid' hk ho
      go_wp2_with fail
      refine HF.out.mono ?_
      rintro e _ ⟨rfl, rfl⟩
      go_wp2_with fail
      refine (covers_at HC.out _).mono ?_
      rintro e w4 ⟨rfl, hg⟩
      have M4 := Lib.hid (M.out.gr hg)
      clear M HF hg q0 q1 q2 q3 q4 q5 r0
      go_wp2_with fail
      obtain ⟨wo, rfl⟩ : ∃ wo : World, wo = w4 := ⟨_, rfl⟩
      go_loopw [17] (fun jv wj => ∃ j : Nat, j ≤ l.length ∧ jv = .int .i64 j ∧ Hid (LI w (some ⟨b, off, none⟩) l (some ⟨b', off', none⟩) (ids way) wj)) (fun j _ => l.length - (intOf j).toNat)
      case atStart => exact ⟨0, by omega, rfl, M4⟩
      case round =>
        clear M4 hb hb'
        obtain ⟨j, hj, rfl, M5⟩ := hrel
        by_cases hjl : j < l.length
        · have HQ1 := Lib.hid (HQ.out l[j] (List.getElem_mem hjl))
          obtain ⟨b2, off2, e2, hb, q0, q1, q2, q3, q4, q5⟩ := M5.out.1.at hkk
          obtain ⟨rfl, rfl⟩ : b = b2 ∧ off = off2 := by injection e2 with e2; injection e2 with e2 e3; exact ⟨e2, e3⟩
          clear e2
          obtain ⟨b2, off2, e2, _, p0, p1, p2, p3, p4, p5⟩ := M5.out.1.at hjl
          obtain ⟨rfl, rfl⟩ : b = b2 ∧ off = off2 := by injection e2 with e2; injection e2 with e2 e3; exact ⟨e2, e3⟩
          clear e2
          rw [HK.out] at q0 q1 q2 q3 q4 q5
          obtain ⟨q, hq⟩ : ∃ q, l[j] = q := ⟨_, rfl⟩
          rw [hq] at p0 p1 p2 p3 p4 p5 HQ1
          clear hq
          by_cases e1 : q.pn = pn
          · have d1 := bytes_eq e1
            by_cases e2 : q.fr = o.fr
            · have d2 := bytes_eq e2
              cases e3 : cov (q.pf, q.pu) day
              · clear e1 e2 HQ1
                have gr0 : ∀ n os, (Sort.grow (wr.drewN n) os).cell? ⟨b, off + j * 6, none⟩ = some (.string q.id) := fun n os => cell_grown hb (by assumption) n os
                have gr1 : ∀ n os, (Sort.grow (wr.drewN n) os).cell? ⟨b, off + j * 6 + 1, none⟩ = some (.string q.pn) := fun n os => cell_grown hb (by assumption) n os
                have gr2 : ∀ n os, (Sort.grow (wr.drewN n) os).cell? ⟨b, off + j * 6 + 2, none⟩ = some (.string q.fr) := fun n os => cell_grown hb (by assumption) n os
                have gr3 : ∀ n os, (Sort.grow (wr.drewN n) os).cell? ⟨b, off + j * 6 + 3, none⟩ = some (.string q.to) := fun n os => cell_grown hb (by assumption) n os
                have gr4 : ∀ n os, (Sort.grow (wr.drewN n) os).cell? ⟨b, off + j * 6 + 4, none⟩ = some (.int .i64 q.pf) := fun n os => cell_grown hb (by assumption) n os
                have gr5 : ∀ n os, (Sort.grow (wr.drewN n) os).cell? ⟨b, off + j * 6 + 5, none⟩ = some (.int .i64 q.pu) := fun n os => cell_grown hb (by assumption) n os
                have hi0a : (0 : Int) ≤ (j : Int) := Int.natCast_nonneg _
                have hi0b : (j : Int) < (l.length : Int) := by omega
                clear p0 p1 p2 p3 p4 p5 q0 q1 q2 q3 q4 q5
                go_wp2_with fail
                refine wp_region_quiet_grown (by assumption) (by kernel_rfl) ?_
                repeat (first | go_big_quiet_skip | quiet_step ((first | (go_at_call 22; exact Calls.grown_of (covers_at e3 _)))))
                refine wpQuiet_nil ?_
                intro _ hw'
                obtain ⟨⟨nq, osq⟩, hw''⟩ := hw'
                subst hw''
                dsimp only
                have M6 := Lib.hid (M5.out.gr ⟨nq, osq, rfl⟩)
                clear M5 gr0 gr1 gr2 gr3 gr4 gr5
                go_wp2_with fail
                go_roundw
                case rel => exact ⟨j + 1, by omega, by go_num, M6⟩
                case measure => simp [intOf]; omega
              · have e4 := HQ1.out e1 e3 e2
                clear e1 e2 HQ1
                have gr0 : ∀ n os, (Sort.grow (wr.drewN n) os).cell? ⟨b, off + j * 6, none⟩ = some (.string q.id) := fun n os => cell_grown hb (by assumption) n os
                have gr1 : ∀ n os, (Sort.grow (wr.drewN n) os).cell? ⟨b, off + j * 6 + 1, none⟩ = some (.string q.pn) := fun n os => cell_grown hb (by assumption) n os
                have gr2 : ∀ n os, (Sort.grow (wr.drewN n) os).cell? ⟨b, off + j * 6 + 2, none⟩ = some (.string q.fr) := fun n os => cell_grown hb (by assumption) n os
                have gr3 : ∀ n os, (Sort.grow (wr.drewN n) os).cell? ⟨b, off + j * 6 + 3, none⟩ = some (.string q.to) := fun n os => cell_grown hb (by assumption) n os
                have gr4 : ∀ n os, (Sort.grow (wr.drewN n) os).cell? ⟨b, off + j * 6 + 4, none⟩ = some (.int .i64 q.pf) := fun n os => cell_grown hb (by assumption) n os
                have gr5 : ∀ n os, (Sort.grow (wr.drewN n) os).cell? ⟨b, off + j * 6 + 5, none⟩ = some (.int .i64 q.pu) := fun n os => cell_grown hb (by assumption) n os
                have gr6 : ∀ n os, (Sort.grow (wr.drewN n) os).cell? ⟨b, off + kk * 6, none⟩ = some (.string o.id) := fun n os => cell_grown hb (by assumption) n os
                have gr7 : ∀ n os, (Sort.grow (wr.drewN n) os).cell? ⟨b, off + kk * 6 + 1, none⟩ = some (.string o.pn) := fun n os => cell_grown hb (by assumption) n os
                have gr8 : ∀ n os, (Sort.grow (wr.drewN n) os).cell? ⟨b, off + kk * 6 + 2, none⟩ = some (.string o.fr) := fun n os => cell_grown hb (by assumption) n os
                have gr9 : ∀ n os, (Sort.grow (wr.drewN n) os).cell? ⟨b, off + kk * 6 + 3, none⟩ = some (.string o.to) := fun n os => cell_grown hb (by assumption) n os
                have gr10 : ∀ n os, (Sort.grow (wr.drewN n) os).cell? ⟨b, off + kk * 6 + 4, none⟩ = some (.int .i64 o.pf) := fun n os => cell_grown hb (by assumption) n os
                have gr11 : ∀ n os, (Sort.grow (wr.drewN n) os).cell? ⟨b, off + kk * 6 + 5, none⟩ = some (.int .i64 o.pu) := fun n os => cell_grown hb (by assumption) n os
                have hi0a : (0 : Int) ≤ (j : Int) := Int.natCast_nonneg _
                have hi0b : (j : Int) < (l.length : Int) := by omega
                have hi1a : (0 : Int) ≤ (kk : Int) := Int.natCast_nonneg _
                have hi1b : (kk : Int) < (l.length : Int) := by omega
                clear p0 p1 p2 p3 p4 p5 q0 q1 q2 q3 q4 q5
                go_wp2_with fail
                refine wp_region_quiet_grown (by assumption) (by kernel_rfl) ?_
                repeat (first | go_big_quiet_skip | quiet_step ((first | (go_at_call 22; exact Calls.grown_of (covers_at e3 _)) | (go_at_call 23; exact Calls.grown_of (rnewer_at e4 _)))))
                refine wpQuiet_nil ?_
                intro _ hw'
                obtain ⟨⟨nq, osq⟩, hw''⟩ := hw'
                subst hw''
                dsimp only
                have M6 := Lib.hid (M5.out.gr ⟨nq, osq, rfl⟩)
                clear M5 gr0 gr1 gr2 gr3 gr4 gr5 gr6 gr7 gr8 gr9 gr10 gr11
                go_wp2_with fail
                go_roundw
                case rel => exact ⟨j + 1, by omega, by go_num, M6⟩
                case measure => simp [intOf]; omega
            · have d2 := bytes_ne e2
              clear e1 e2 HQ1
              go_wp2_with fail
              go_quiet (fail)
              have M6 := Lib.hid (M5.out.gr (Gr.drewN wr nq))
              clear M5
              go_wp2_with fail
              go_roundw
              case rel => exact ⟨j + 1, by omega, by go_num, M6⟩
              case measure => simp [intOf]; omega
          · have d1 := bytes_ne e1
            clear e1 HQ1
            go_wp2_with fail
            go_quiet (fail)
            have M6 := Lib.hid (M5.out.gr (Gr.drewN wr nq))
            clear M5
            go_wp2_with fail
            go_roundw
            case rel => exact ⟨j + 1, by omega, by go_num, M6⟩
            case measure => simp [intOf]; omega
        · obtain rfl : j = l.length := by omega
          go_wp2_with fail
          obtain ⟨wo2, rfl⟩ : ∃ wo2 : World, wo2 = wr := ⟨_, rfl⟩
          have M7 := Lib.hid M5.out
          clear M5
          go_loopw [18] (fun jv wj => ∃ j : Nat, j ≤ i ∧ jv = .int .i64 j ∧ Hid (LI w (some ⟨b, off, none⟩) l (some ⟨b', off', none⟩) (ids way) wj)) (fun j _ => i - (intOf j).toNat)
          case atStart => exact ⟨0, by omega, rfl, M7⟩
          case round =>
            clear M7
            obtain ⟨j, hj, rfl, M8⟩ := hrel
            by_cases hji : j < i
            · have hx := HI.out j hji
              have hsj : j < (ids way).length := by simp [ids]; omega
              obtain ⟨b2, off2, e2, _, p0⟩ := M8.out.2.1.at hsj
              obtain ⟨rfl, rfl⟩ : b' = b2 ∧ off' = off2 := by injection e2 with e2; injection e2 with e2 e3; exact ⟨e2, e3⟩
              clear e2
              obtain ⟨b2, off2, e2, _, p1⟩ := M8.out.2.1.at hsi
              obtain ⟨rfl, rfl⟩ : b' = b2 ∧ off' = off2 := by injection e2 with e2; injection e2 with e2 e3; exact ⟨e2, e3⟩
              clear e2
              rw [show (ids way)[j] = way[j].id by simp [ids]] at p0
              rw [show (ids way)[i] = way[i].id by simp [ids], show way[i].id = o.id from HIO.out] at p1
              have d1 := bytes_ne hx
              clear hx hsj
              generalize way[j].id = y at *
              have hi0 : (0 : Int) ≤ (i : Int) := Int.natCast_nonneg _
              have hi1 : (i : Int) < (way.length : Int) := by omega
              have hj0 : (0 : Int) ≤ (j : Int) := Int.natCast_nonneg _
              have hj1 : (j : Int) < (way.length : Int) := by omega
              go_wp2_with fail
              go_quiet (fail)
              have M9 := Lib.hid (M8.out.gr (Gr.drewN wr nq))
              clear M8
              go_wp2_with fail
              go_roundw
              case rel => exact ⟨j + 1, by omega, by go_num, M9⟩
              case measure => simp [intOf]; omega
            · obtain rfl : j = i := by omega
              obtain ⟨b2, off2, e2, hb, q0, q1, q2, q3, q4, q5⟩ := M8.out.1.at hkk
              obtain ⟨rfl, rfl⟩ : b = b2 ∧ off = off2 := by injection e2 with e2; injection e2 with e2 e3; exact ⟨e2, e3⟩
              clear e2
              rw [HK.out] at q0 q1 q2 q3 q4 q5
              go_wp2_with fail
              go_roundw
              case rel => exact ⟨j + 1, by omega, by go_num, o.to, rfl, Lib.hid HN.out.symm, M8⟩
              case measure => simp [intOf]; omega
    · obtain rfl : i = way.length := by omega
      have HX2 : Hid (x = endAt Ord.to door way) := Lib.hid (by have h := HX.out; rwa [List.take_length] at h)
      clear HX
      obtain ⟨wo, rfl⟩ : ∃ wo : World, wo = wr := ⟨_, rfl⟩
      go_wp2_with fail
      go_loopw [14, 19] (fun cv iv wj => ∃ i : Nat, i ≤ way.length ∧ iv = .int .i64 i ∧ ∃ bb, cv = .bool bb ∧ Hid (bb = anyF (way.take i) x) ∧ Hid (LI w A l B (ids way) wj)) (fun _ i _ => way.length - (intOf i).toNat)
      case atStart => exact ⟨0, by omega, rfl, false, rfl, Lib.hid rfl, M⟩
      case round =>
        clear M
        obtain ⟨i, hi, rfl, bb, rfl, HB, M⟩ := hrel
        by_cases hlt : i < way.length
        · cases bb
          · obtain ⟨kk, hkk, hk⟩ := mem_at (way_mem HE.out (List.getElem_mem hlt))
            have hid := ids_at way i hlt
            have HT := Lib.hid (anyF_take (x := x) hlt)
            obtain ⟨o, ho⟩ : ∃ o, way[i] = o := ⟨_, rfl⟩
            rw [ho] at hk hid HT
            rw [← HB.out, Bool.false_or] at HT
            have HF := Lib.hid (find_at A c l wr M.out.1 (by omega) (prp_nodup HP.out) kk hkk o.id (by rw [hk]))
            have hsi : i < (ids way).length := by simpa [ids] using hlt
            obtain ⟨b, off, rfl, hb, q0, q1, q2, q3, q4, q5⟩ := M.out.1.at hkk
            obtain ⟨b', off', rfl, hb', r0⟩ := M.out.2.1.at hsi
            have hid' : (ids way)[i] = o.id := by rw [List.getElem?_eq_getElem hsi] at hid; exact Option.some.inj hid
            rw [hid'] at r0
            rw [hk] at q0 q1 q2 q3 q4 q5
            clear hid hid' hk ho
            by_cases e : o.fr = x
            · have d1 := bytes_eq e
              have HB2 : Hid (true = anyF (way.take (i + 1)) x) := Lib.hid (by rw [HT.out, decide_eq_true e])
              clear e HT HB
              go_wp2_with fail
              refine HF.out.mono ?_
              rintro e _ ⟨rfl, rfl⟩
              go_wp2_with fail
              go_roundw
              case rel => exact ⟨i + 1, by omega, by go_num, _, rfl, HB2, M⟩
              case measure => simp [intOf]; omega
            · have d1 := bytes_ne e
              have HB2 : Hid (false = anyF (way.take (i + 1)) x) := Lib.hid (by rw [HT.out, decide_eq_false e])
              clear e HT HB
              go_wp2_with fail
              refine HF.out.mono ?_
              rintro e _ ⟨rfl, rfl⟩
              go_wp2_with fail
              go_roundw
              case rel => exact ⟨i + 1, by omega, by go_num, _, rfl, HB2, M⟩
              case measure => simp [intOf]; omega
          · have HB2 : Hid (true = anyF (way.take (i + 1)) x) := Lib.hid (by rw [anyF_take hlt, ← HB.out, Bool.true_or])
            clear HB
            go_wp2_with fail
            go_roundw
            case rel => exact ⟨i + 1, by omega, by go_num, _, rfl, HB2, M⟩
            case measure => simp [intOf]; omega
        · obtain rfl : i = way.length := by omega
          cases bb
          · obtain ⟨hc, ht⟩ := ends_out HE.out (by rw [← HX2.out]; have h := HB.out; rw [List.take_length] at h; exact h.symm)
            rw [← HX2.out] at hc ht
            subst ht
            have HW := Lib.hid (way_none hc)
            clear hc
            obtain ⟨wo2, rfl⟩ : ∃ wo2 : World, wo2 = wr := ⟨_, rfl⟩
            go_wp2_with fail
            go_loopw [20] (fun jv wj => ∃ j : Nat, j ≤ l.length ∧ jv = .int .i64 j ∧ Hid (LI w A l B (ids way) wj)) (fun j _ => l.length - (intOf j).toNat)
            case atStart => exact ⟨0, by omega, rfl, M⟩
            case round =>
              clear M
              obtain ⟨j, hj, rfl, M5⟩ := hrel
              by_cases hjl : j < l.length
              · have HQ1 := Lib.hid (HW.out l[j] (List.getElem_mem hjl))
                obtain ⟨b, off, rfl, hb, p0, p1, p2, p3, p4, p5⟩ := M5.out.1.at hjl
                obtain ⟨q, hq⟩ : ∃ q, l[j] = q := ⟨_, rfl⟩
                rw [hq] at p0 p1 p2 p3 p4 p5 HQ1
                clear hq
                by_cases e1 : q.pn = pn
                · have d1 := bytes_eq e1
                  by_cases e2 : q.fr = t
                  · have d2 := bytes_eq e2
                    have e3 : cov (q.pf, q.pu) day = false := by cases h : cov (q.pf, q.pu) day; rfl; exact absurd e2 (HQ1.out e1 h)
                    have HC := Lib.hid e3
                    clear e1 e2 e3 HQ1
                    go_wp2_with fail
                    refine (covers_at HC.out _).mono ?_
                    rintro e w4 ⟨rfl, hg⟩
                    have M6 := Lib.hid (M5.out.gr hg)
                    clear M5 hg p0 p1 p2 p3 p4 p5
                    go_wp2_with fail
                    go_roundw
                    case rel => exact ⟨j + 1, by omega, by go_num, M6⟩
                    case measure => simp [intOf]; omega
                  · have d2 := bytes_ne e2
                    clear e1 e2 HQ1
                    go_wp2_with fail
                    go_roundw
                    case rel => exact ⟨j + 1, by omega, by go_num, M5⟩
                    case measure => simp [intOf]; omega
                · have d1 := bytes_ne e1
                  clear e1 HQ1
                  go_wp2_with fail
                  go_roundw
                  case rel => exact ⟨j + 1, by omega, by go_num, M5⟩
                  case measure => simp [intOf]; omega
              · obtain rfl : j = l.length := by omega
                go_wp2_with fail
                go_ret
                exact ⟨rfl, M5.out.2.2⟩
          · go_wp2_with fail
            go_ret
            exact ⟨rfl, M.out.2.2⟩
theorem follows_walk (A : Option Addr) (l : List Ord) (c : Nat) (pn door : ByteArray) (day : Int) (w : World) (hL : LaidT w) (hR : RdO w A l) : Calls Tryd.prog 4 #[.slice A l.length c, .string pn, .string door, .int .i64 day] w (Yes w) := by
  cases hf : fewB l
  · exact follows_few A c l pn door day w (Lib.hid hL) (Lib.hid hR) (Lib.hid hf)
  cases hs : shB pn door
  · exact follows_short A c l pn door day w (Lib.hid hL) (Lib.hid hR) (Lib.hid hf) (Lib.hid hs)
  have zz : pn.size ≤ 60 ∧ door.size ≤ 60 := of_decide_eq_true hs
  cases ha : argB l pn door day
  · exact follows_no A c l pn door day w (Lib.hid hL) (Lib.hid hR) (Lib.hid hf) (Lib.hid hs) (Lib.hid fun W hL hr => settle_no A c l pn door day W hL.1 hr (by have := few_len hf; omega) (fun o ho => by have k := few_mem hf ho; exact ⟨by omega, by omega, by omega, by omega⟩) (by omega) (by omega) ha)
  · exact follows_yes A c l pn door day w (Lib.hid hL) (Lib.hid hR) (Lib.hid hf) (Lib.hid hs) (few_len hf) (Lib.hid (arg_prp ha)) (Lib.hid fun W hL hr => settle_w A c l pn door day W hL.1 hr hf ha)
end Go.Proofs.YtngbkdnkpolbfaaDoor
