/- The contract of the reference's Counts. Under no condition but sizes. -/
import Derived.Test.YtngbkdnkpolbfaaDoorDR
import Derived.Test.YtngbkdnkpolbfaaDoorGP
namespace Go.Proofs.YtngbkdnkpolbfaaDoor
open Go.RowKit Go.Maps

/-- the index of the order that counts among the first ones -/
def Cix (pn : ByteArray) (day : Int) (l : List Ord) (x : ByteArray) (i : Nat) (bi : Int) : Prop :=
  (bi = -1 ∧ cntO pn day (l.take i) x = none) ∨ (∃ k, ∃ h : k < l.length, bi = (k : Int) ∧ cntO pn day (l.take i) x = some l[k])
theorem cnt_step {pn : ByteArray} {day : Int} {l : List Ord} {i : Nat} (hi : i < l.length) : cntO pn day (l.take (i + 1)) = cntStep Ord.fr nwB (actB pn day) (cntO pn day (l.take i)) l[i] := by
  unfold cntO; rw [List.take_succ_eq_append_getElem hi, cnt_snoc]
theorem Cix.no {pn x : ByteArray} {day : Int} {l : List Ord} {i : Nat} {bi : Int} (h : Cix pn day l x i bi) (hi : i < l.length) (ha : actB pn day l[i] = false) : Cix pn day l x (i + 1) bi := by
  unfold Cix; rw [cnt_step hi, step_no1 ha]; exact h
theorem Cix.far {pn x : ByteArray} {day : Int} {l : List Ord} {i : Nat} {bi : Int} (h : Cix pn day l x i bi) (hi : i < l.length) (hx : l[i].fr ≠ x) : Cix pn day l x (i + 1) bi := by
  have e : cntO pn day (l.take (i + 1)) x = cntO pn day (l.take i) x := by
    have h2 : ∀ (b : Bool) (F : ByteArray → Option Ord), (if b = true then (fun y => if y = l[i].fr then some l[i] else F y) else F) x = F x := by
      intro b F
      cases b
      · rfl
      · simp [Ne.symm hx]
    rw [cnt_step hi]; unfold cntStep
    exact h2 _ _
  unfold Cix; rw [e]; exact h
theorem Cix.new {pn x : ByteArray} {day : Int} {l : List Ord} {i : Nat} (hi : i < l.length) (ha : actB pn day l[i] = true) (hx : l[i].fr = x) (hn : cntO pn day (l.take i) x = none) : Cix pn day l x (i + 1) (i : Int) := by
  refine Or.inr ⟨i, hi, rfl, ?_⟩
  rw [cnt_step hi]; unfold cntStep
  rw [hx, hn, ha]; simp
theorem Cix.over {pn x : ByteArray} {day : Int} {l : List Ord} {i : Nat} {o : Ord} (hi : i < l.length) (ha : actB pn day l[i] = true) (hx : l[i].fr = x) (hn : cntO pn day (l.take i) x = some o) (hw : nwB l[i] o = true) : Cix pn day l x (i + 1) (i : Int) := by
  refine Or.inr ⟨i, hi, rfl, ?_⟩
  rw [cnt_step hi]; unfold cntStep
  rw [hx, hn, ha]; simp [hw]
theorem Cix.stay {pn x : ByteArray} {day : Int} {l : List Ord} {i k : Nat} (hk : k < l.length) (hi : i < l.length) (hx : l[i].fr = x) (hn : cntO pn day (l.take i) x = some l[k]) (hw : nwB l[i] l[k] = false) : Cix pn day l x (i + 1) (k : Int) := by
  refine Or.inr ⟨k, hk, rfl, ?_⟩
  rw [cnt_step hi]; unfold cntStep
  rw [hx, hn]; simp [hw, hn]
/-- what Counts leaves -/
def NPost (pn : ByteArray) (day : Int) (l : List Ord) (x : ByteArray) (w : World) (e : Ending) (w' : World) : Prop :=
  ∃ bi : Int, e = .returned (.int .i64 bi) ∧ Gr w w' ∧ ((bi = -1 ∧ cntO pn day l x = none) ∨ (∃ k, ∃ h : k < l.length, bi = (k : Int) ∧ cntO pn day l x = some l[k]))
theorem rcovers_at {f u d : Int} {b : Bool} (h : cov (f, u) d = b) (w : World) : Calls Tryd.prog 43 #[.agg #[.int .i64 f, .int .i64 u], .int .i64 d] w fun e w' => e = .returned (.bool b) ∧ Gr w w' := by
  rw [← h]; exact rcovers_any f u d w

set_option maxRecDepth 100000 in
set_option maxHeartbeats 16000000 in
theorem counts_any (A : Option Addr) (c : Nat) (l : List Ord) (pn x : ByteArray) (day : Int) (w : World) (hr : RdO w A l) (hl : l.length ≤ 1000) :
    Calls Tryd.prog 24 #[.slice A l.length c, .string pn, .string x, .int .i64 day] w (NPost pn day l x w) := by
  have HR := Lib.hid hr
  clear hr
  have mixed : Tryd.prog.follows .mixedOrders = true := by kernel_rfl
  go_enter Tryd.func24, Tryd.ntmps24
  go_wp2_with fail
  go_loopw [9, 10] (fun bv iv wj => ∃ i : Nat, i ≤ l.length ∧ iv = .int .i64 i ∧ ∃ bi : Int, bv = .int .i64 bi ∧ Hid (Cix pn day l x i bi) ∧ Hid (Gr w wj)) (fun _ i _ => l.length - (intOf i).toNat)
  case atStart => exact ⟨0, by omega, rfl, -1, rfl, Lib.hid (Or.inl ⟨rfl, rfl⟩), Lib.hid (Gr.refl w)⟩
  case round =>
    obtain ⟨i, hi, rfl, bi, rfl, HB, HG⟩ := hrel
    by_cases hlt : i < l.length
    · obtain ⟨b, off, rfl, hb, q0, q1, q2, q3, q4, q5⟩ := (HR.out.keep HG.out.below).at hlt
      have HQQ := Lib.hid (show l[i].pn = l[i].pn from rfl)
      obtain ⟨q, hq⟩ : ∃ q, l[i] = q := ⟨_, rfl⟩
      rw [hq] at q0 q1 q2 q3 q4 q5
      have HQ := Lib.hid hq
      clear hq HQQ
      by_cases e1 : q.pn = pn
      · have d1 := bytes_eq e1
        by_cases e2 : q.fr = x
        · have d2 := bytes_eq e2
          cases e3 : cov (q.pf, q.pu) day
          · have HB2 := Lib.hid (HB.out.no hlt (by rw [HQ.out]; exact act_no e3))
            have hcv := e3
            clear e1 e2 e3 HB
            rcases (show bi < 0 ∨ 0 ≤ bi by omega) with hbi | hbi
            all_goals
              have hbd : (bi < 0) = (bi < 0) := rfl
              clear hbd
              have gr0 : ∀ n os, (Sort.grow (wr.drewN n) os).cell? ⟨b, off + i * 6, none⟩ = some (.string q.id) := fun n os => cell_grown hb (by assumption) n os
              have gr1 : ∀ n os, (Sort.grow (wr.drewN n) os).cell? ⟨b, off + i * 6 + 1, none⟩ = some (.string q.pn) := fun n os => cell_grown hb (by assumption) n os
              have gr2 : ∀ n os, (Sort.grow (wr.drewN n) os).cell? ⟨b, off + i * 6 + 2, none⟩ = some (.string q.fr) := fun n os => cell_grown hb (by assumption) n os
              have gr3 : ∀ n os, (Sort.grow (wr.drewN n) os).cell? ⟨b, off + i * 6 + 3, none⟩ = some (.string q.to) := fun n os => cell_grown hb (by assumption) n os
              have gr4 : ∀ n os, (Sort.grow (wr.drewN n) os).cell? ⟨b, off + i * 6 + 4, none⟩ = some (.int .i64 q.pf) := fun n os => cell_grown hb (by assumption) n os
              have gr5 : ∀ n os, (Sort.grow (wr.drewN n) os).cell? ⟨b, off + i * 6 + 5, none⟩ = some (.int .i64 q.pu) := fun n os => cell_grown hb (by assumption) n os
              have hi0a : (0 : Int) ≤ (i : Int) := Int.natCast_nonneg _
              have hi0b : (i : Int) < (l.length : Int) := by omega
              go_wp2_with fail
              refine wp_region_quiet_grown (by assumption) (by kernel_rfl) ?_
              repeat (first | go_big_quiet_skip | quiet_step ((first | (go_at_call 43; exact Calls.grown_of (rcovers_at hcv _)))))
              refine wpQuiet_nil ?_
              intro _ hw'
              obtain ⟨⟨nq, osq⟩, hw''⟩ := hw'
              subst hw''
              dsimp only
              have HG2 := Lib.hid (HG.out.trans ⟨nq, osq, rfl⟩)
              clear HG gr0 gr1 gr2 gr3 gr4 gr5
              go_wp2_with fail
              go_roundw
              case rel => exact ⟨i + 1, by omega, by go_num, _, rfl, HB2, HG2⟩
              case measure => simp [intOf]; omega
          · rcases HB.out with ⟨rfl, hn⟩ | ⟨k, hk, rfl, hn⟩
            · have HB2 := Lib.hid (Cix.new (x := x) hlt (by rw [HQ.out]; exact act_yes e3 e1) (by rw [HQ.out]; exact e2) hn)
              have hcv := e3
              clear e1 e2 e3 hn HB
              have gr0 : ∀ n os, (Sort.grow (wr.drewN n) os).cell? ⟨b, off + i * 6, none⟩ = some (.string q.id) := fun n os => cell_grown hb (by assumption) n os
              have gr1 : ∀ n os, (Sort.grow (wr.drewN n) os).cell? ⟨b, off + i * 6 + 1, none⟩ = some (.string q.pn) := fun n os => cell_grown hb (by assumption) n os
              have gr2 : ∀ n os, (Sort.grow (wr.drewN n) os).cell? ⟨b, off + i * 6 + 2, none⟩ = some (.string q.fr) := fun n os => cell_grown hb (by assumption) n os
              have gr3 : ∀ n os, (Sort.grow (wr.drewN n) os).cell? ⟨b, off + i * 6 + 3, none⟩ = some (.string q.to) := fun n os => cell_grown hb (by assumption) n os
              have gr4 : ∀ n os, (Sort.grow (wr.drewN n) os).cell? ⟨b, off + i * 6 + 4, none⟩ = some (.int .i64 q.pf) := fun n os => cell_grown hb (by assumption) n os
              have gr5 : ∀ n os, (Sort.grow (wr.drewN n) os).cell? ⟨b, off + i * 6 + 5, none⟩ = some (.int .i64 q.pu) := fun n os => cell_grown hb (by assumption) n os
              have hi0a : (0 : Int) ≤ (i : Int) := Int.natCast_nonneg _
              have hi0b : (i : Int) < (l.length : Int) := by omega
              go_wp2_with fail
              refine wp_region_quiet_grown (by assumption) (by kernel_rfl) ?_
              repeat (first | go_big_quiet_skip | quiet_step ((first | (go_at_call 43; exact Calls.grown_of (rcovers_at hcv _)))))
              refine wpQuiet_nil ?_
              intro _ hw'
              obtain ⟨⟨nq, osq⟩, hw''⟩ := hw'
              subst hw''
              dsimp only
              have HG2 := Lib.hid (HG.out.trans ⟨nq, osq, rfl⟩)
              clear HG gr0 gr1 gr2 gr3 gr4 gr5
              go_wp2_with fail
              go_roundw
              case rel => exact ⟨i + 1, by omega, by go_num, _, rfl, HB2, HG2⟩
              case measure => simp [intOf]; omega
            · obtain ⟨b2, off2, e4, _, p0, p1, p2, p3, p4, p5⟩ := (HR.out.keep HG.out.below).at hk
              obtain ⟨rfl, rfl⟩ : b = b2 ∧ off = off2 := by injection e4 with e4; injection e4 with e4 e5; exact ⟨e4, e5⟩
              clear e4
              obtain ⟨y, hy⟩ : ∃ y, l[k] = y := ⟨_, rfl⟩
              have hkn : ¬ (k : Int) < 0 := by omega
              cases e6 : nwB q y
              · have HB2 := Lib.hid (Cix.stay (x := x) hk hlt (by rw [HQ.out]; exact e2) hn (by rw [HQ.out, hy]; exact e6))
                have hcv := e3
                have hnw := e6
                rw [hy] at p0 p1 p2 p3 p4 p5
                clear e1 e2 e3 e6 hn hy HB
                have gr0 : ∀ n os, (Sort.grow (wr.drewN n) os).cell? ⟨b, off + i * 6, none⟩ = some (.string q.id) := fun n os => cell_grown hb (by assumption) n os
                have gr1 : ∀ n os, (Sort.grow (wr.drewN n) os).cell? ⟨b, off + i * 6 + 1, none⟩ = some (.string q.pn) := fun n os => cell_grown hb (by assumption) n os
                have gr2 : ∀ n os, (Sort.grow (wr.drewN n) os).cell? ⟨b, off + i * 6 + 2, none⟩ = some (.string q.fr) := fun n os => cell_grown hb (by assumption) n os
                have gr3 : ∀ n os, (Sort.grow (wr.drewN n) os).cell? ⟨b, off + i * 6 + 3, none⟩ = some (.string q.to) := fun n os => cell_grown hb (by assumption) n os
                have gr4 : ∀ n os, (Sort.grow (wr.drewN n) os).cell? ⟨b, off + i * 6 + 4, none⟩ = some (.int .i64 q.pf) := fun n os => cell_grown hb (by assumption) n os
                have gr5 : ∀ n os, (Sort.grow (wr.drewN n) os).cell? ⟨b, off + i * 6 + 5, none⟩ = some (.int .i64 q.pu) := fun n os => cell_grown hb (by assumption) n os
                have gr6 : ∀ n os, (Sort.grow (wr.drewN n) os).cell? ⟨b, off + k * 6, none⟩ = some (.string y.id) := fun n os => cell_grown hb (by assumption) n os
                have gr7 : ∀ n os, (Sort.grow (wr.drewN n) os).cell? ⟨b, off + k * 6 + 1, none⟩ = some (.string y.pn) := fun n os => cell_grown hb (by assumption) n os
                have gr8 : ∀ n os, (Sort.grow (wr.drewN n) os).cell? ⟨b, off + k * 6 + 2, none⟩ = some (.string y.fr) := fun n os => cell_grown hb (by assumption) n os
                have gr9 : ∀ n os, (Sort.grow (wr.drewN n) os).cell? ⟨b, off + k * 6 + 3, none⟩ = some (.string y.to) := fun n os => cell_grown hb (by assumption) n os
                have gr10 : ∀ n os, (Sort.grow (wr.drewN n) os).cell? ⟨b, off + k * 6 + 4, none⟩ = some (.int .i64 y.pf) := fun n os => cell_grown hb (by assumption) n os
                have gr11 : ∀ n os, (Sort.grow (wr.drewN n) os).cell? ⟨b, off + k * 6 + 5, none⟩ = some (.int .i64 y.pu) := fun n os => cell_grown hb (by assumption) n os
                have hi0a : (0 : Int) ≤ (i : Int) := Int.natCast_nonneg _
                have hi0b : (i : Int) < (l.length : Int) := by omega
                have hi1a : (0 : Int) ≤ (k : Int) := Int.natCast_nonneg _
                have hi1b : (k : Int) < (l.length : Int) := by omega
                go_wp2_with fail
                refine wp_region_quiet_grown (by assumption) (by kernel_rfl) ?_
                repeat (first | go_big_quiet_skip | quiet_step ((first | (go_at_call 43; exact Calls.grown_of (rcovers_at hcv _)) | (go_at_call 23; exact Calls.grown_of (rnewer_at hnw _)))))
                refine wpQuiet_nil ?_
                intro _ hw'
                obtain ⟨⟨nq, osq⟩, hw''⟩ := hw'
                subst hw''
                dsimp only
                have HG2 := Lib.hid (HG.out.trans ⟨nq, osq, rfl⟩)
                clear HG gr0 gr1 gr2 gr3 gr4 gr5 gr6 gr7 gr8 gr9 gr10 gr11
                go_wp2_with fail
                go_roundw
                case rel => exact ⟨i + 1, by omega, by go_num, _, rfl, HB2, HG2⟩
                case measure => simp [intOf]; omega
              · have HB2 := Lib.hid (Cix.over (x := x) (o := y) hlt (by rw [HQ.out]; exact act_yes e3 e1) (by rw [HQ.out]; exact e2) (by rw [hn, hy]) (by rw [HQ.out]; exact e6))
                have hcv := e3
                have hnw := e6
                rw [hy] at p0 p1 p2 p3 p4 p5
                clear e1 e2 e3 e6 hn hy HB
                have gr0 : ∀ n os, (Sort.grow (wr.drewN n) os).cell? ⟨b, off + i * 6, none⟩ = some (.string q.id) := fun n os => cell_grown hb (by assumption) n os
                have gr1 : ∀ n os, (Sort.grow (wr.drewN n) os).cell? ⟨b, off + i * 6 + 1, none⟩ = some (.string q.pn) := fun n os => cell_grown hb (by assumption) n os
                have gr2 : ∀ n os, (Sort.grow (wr.drewN n) os).cell? ⟨b, off + i * 6 + 2, none⟩ = some (.string q.fr) := fun n os => cell_grown hb (by assumption) n os
                have gr3 : ∀ n os, (Sort.grow (wr.drewN n) os).cell? ⟨b, off + i * 6 + 3, none⟩ = some (.string q.to) := fun n os => cell_grown hb (by assumption) n os
                have gr4 : ∀ n os, (Sort.grow (wr.drewN n) os).cell? ⟨b, off + i * 6 + 4, none⟩ = some (.int .i64 q.pf) := fun n os => cell_grown hb (by assumption) n os
                have gr5 : ∀ n os, (Sort.grow (wr.drewN n) os).cell? ⟨b, off + i * 6 + 5, none⟩ = some (.int .i64 q.pu) := fun n os => cell_grown hb (by assumption) n os
                have gr6 : ∀ n os, (Sort.grow (wr.drewN n) os).cell? ⟨b, off + k * 6, none⟩ = some (.string y.id) := fun n os => cell_grown hb (by assumption) n os
                have gr7 : ∀ n os, (Sort.grow (wr.drewN n) os).cell? ⟨b, off + k * 6 + 1, none⟩ = some (.string y.pn) := fun n os => cell_grown hb (by assumption) n os
                have gr8 : ∀ n os, (Sort.grow (wr.drewN n) os).cell? ⟨b, off + k * 6 + 2, none⟩ = some (.string y.fr) := fun n os => cell_grown hb (by assumption) n os
                have gr9 : ∀ n os, (Sort.grow (wr.drewN n) os).cell? ⟨b, off + k * 6 + 3, none⟩ = some (.string y.to) := fun n os => cell_grown hb (by assumption) n os
                have gr10 : ∀ n os, (Sort.grow (wr.drewN n) os).cell? ⟨b, off + k * 6 + 4, none⟩ = some (.int .i64 y.pf) := fun n os => cell_grown hb (by assumption) n os
                have gr11 : ∀ n os, (Sort.grow (wr.drewN n) os).cell? ⟨b, off + k * 6 + 5, none⟩ = some (.int .i64 y.pu) := fun n os => cell_grown hb (by assumption) n os
                have hi0a : (0 : Int) ≤ (i : Int) := Int.natCast_nonneg _
                have hi0b : (i : Int) < (l.length : Int) := by omega
                have hi1a : (0 : Int) ≤ (k : Int) := Int.natCast_nonneg _
                have hi1b : (k : Int) < (l.length : Int) := by omega
                go_wp2_with fail
                refine wp_region_quiet_grown (by assumption) (by kernel_rfl) ?_
                repeat (first | go_big_quiet_skip | quiet_step ((first | (go_at_call 43; exact Calls.grown_of (rcovers_at hcv _)) | (go_at_call 23; exact Calls.grown_of (rnewer_at hnw _)))))
                refine wpQuiet_nil ?_
                intro _ hw'
                obtain ⟨⟨nq, osq⟩, hw''⟩ := hw'
                subst hw''
                dsimp only
                have HG2 := Lib.hid (HG.out.trans ⟨nq, osq, rfl⟩)
                clear HG gr0 gr1 gr2 gr3 gr4 gr5 gr6 gr7 gr8 gr9 gr10 gr11
                go_wp2_with fail
                go_roundw
                case rel => exact ⟨i + 1, by omega, by go_num, _, rfl, HB2, HG2⟩
                case measure => simp [intOf]; omega
        · have d2 := bytes_ne e2
          have HB2 := Lib.hid (HB.out.far hlt (by rw [HQ.out]; exact e2))
          clear e1 e2 HB
          go_wp2_with fail
          go_quiet (fail)
          have HG2 := Lib.hid (HG.out.trans (Gr.drewN wr nq))
          clear HG
          go_wp2_with fail
          go_roundw
          case rel => exact ⟨i + 1, by omega, by go_num, _, rfl, HB2, HG2⟩
          case measure => simp [intOf]; omega
      · have d1 := bytes_ne e1
        have HB2 := Lib.hid (HB.out.no hlt (by rw [HQ.out]; exact act_non e1))
        clear e1 HB
        go_wp2_with fail
        go_quiet (fail)
        have HG2 := Lib.hid (HG.out.trans (Gr.drewN wr nq))
        clear HG
        go_wp2_with fail
        go_roundw
        case rel => exact ⟨i + 1, by omega, by go_num, _, rfl, HB2, HG2⟩
        case measure => simp [intOf]; omega
    · obtain rfl : i = l.length := by omega
      have HE : Hid (NPost pn day l x w (.returned (.int .i64 bi)) wr) := Lib.hid ⟨bi, rfl, HG.out, by have h := HB.out; unfold Cix at h; rwa [List.take_length] at h⟩
      clear HB HG
      go_wp2_with fail
      go_ret
      exact HE.out
end Go.Proofs.YtngbkdnkpolbfaaDoor
