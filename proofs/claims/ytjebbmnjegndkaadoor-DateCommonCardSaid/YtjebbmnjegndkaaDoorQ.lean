/- The walk of the law DateCommon. Under the condition that the tables lie in memory as the program lays them. -/
import Derived.Test.YtjebbmnjegndkaaDoorP
import Derived.Test.YtjebbmnjegndkaaDoorM
namespace Go.Proofs.YtjebbmnjegndkaaDoor
open Go.RowKit

theorem cmB_comm (p q : Int × Int) : cmB q p = cmB p q := by
  unfold cmB
  rw [show max q.1 p.1 = max p.1 q.1 by omega, show min (en q) (en p) = min (en p) (en q) by omega, Bool.and_comm (prp q)]
theorem cmP_comm (p q : Int × Int) : cmP q p = cmP p q := by
  unfold cmP
  rw [cmB_comm, show max q.1 p.1 = max p.1 q.1 by omega, show min (en q) (en p) = min (en p) (en q) by omega]
theorem cmB_iff (p q : Int × Int) : cmB p q = true ↔ prp p = true ∧ prp q = true ∧ max p.1 q.1 < min (en p) (en q) := by
  unfold cmB; simp [Bool.and_eq_true, and_assoc]
theorem cm_later (p q : Int × Int) : cmB p q = (cov p (max p.1 q.1) && cov q (max p.1 q.1)) := by
  rw [Bool.eq_iff_iff, cmB_iff, Bool.and_eq_true]
  constructor
  · rintro ⟨a, b, c⟩
    rw [cov_iff p a, cov_iff q b]; omega
  · rintro ⟨a, b⟩
    have hp : prp p = true := by unfold cov at a; exact (Bool.and_eq_true _ _ ▸ a).1
    have hq : prp q = true := by unfold cov at b; exact (Bool.and_eq_true _ _ ▸ b).1
    rw [cov_iff p hp] at a
    rw [cov_iff q hq] at b
    exact ⟨hp, hq, by omega⟩
theorem cmP_ok (p q : Int × Int) (h : cmB p q = true) : prp (cmP p q) = true ∧ (cmP p q).1 = max p.1 q.1 ∧ en (cmP p q) = min (en p) (en q) := by
  obtain ⟨a, b, c⟩ := (cmB_iff p q).1 h
  have la := prp_lt p a
  have lb := prp_lt q b
  have pa := (prp_iff p).1 a
  have pb := (prp_iff q).1 b
  unfold cmP
  rw [if_pos h]
  by_cases d : 100000 < min (en p) (en q)
  · rw [if_pos d]
    refine ⟨by rw [prp_iff]; dsimp only; omega, rfl, ?_⟩
    show (if (-1 : Int) < 0 then 100001 else -1) = _
    rw [if_pos (by decide)]; omega
  · rw [if_neg d]
    refine ⟨by rw [prp_iff]; dsimp only; omega, rfl, ?_⟩
    show (if min (en p) (en q) < 0 then 100001 else min (en p) (en q)) = _
    rw [if_neg (by omega)]
theorem cm_cov (p q : Int × Int) (d : Int) : (cov p d && cov q d) = (cmB p q && cov (cmP p q) d) := by
  cases hB : cmB p q with
  | true =>
    obtain ⟨a, b, c⟩ := (cmB_iff p q).1 hB
    obtain ⟨x, y, z⟩ := cmP_ok p q hB
    rw [Bool.eq_iff_iff, Bool.and_eq_true, Bool.true_and, cov_iff p a, cov_iff q b, cov_iff _ x, y, z]
    omega
  | false =>
    rw [Bool.false_and]
    cases ha : cov p d with
    | false => rfl
    | true =>
      cases hb : cov q d with
      | false => rfl
      | true =>
        exfalso
        have hp : prp p = true := by unfold cov at ha; exact (Bool.and_eq_true _ _ ▸ ha).1
        have hq : prp q = true := by unfold cov at hb; exact (Bool.and_eq_true _ _ ▸ hb).1
        rw [cov_iff p hp] at ha
        rw [cov_iff q hq] at hb
        have : cmB p q = true := (cmB_iff p q).2 ⟨hp, hq, by omega⟩
        rw [hB] at this; cases this
theorem cmP_no (p q : Int × Int) (h : cmB p q = false) : cmP p q = (0, 0) := by unfold cmP; rw [h]; rfl

set_option maxHeartbeats 2000000 in
set_option maxRecDepth 100000 in
theorem common_tt (f u f' u' d c0 c1 : Int) (b : Bool) (w : World) (hL : Laid w)
    (KC : ∀ W, Calls Tryd.prog 21 #[.agg #[.int .i64 f, .int .i64 u], .agg #[.int .i64 f', .int .i64 u']] W fun e w' => e = .returned (.tuple #[.agg #[.int .i64 c0, .int .i64 c1], .bool true]) ∧ Below W.heap.size W w')
    (KD : ∀ W, Calls Tryd.prog 21 #[.agg #[.int .i64 f', .int .i64 u'], .agg #[.int .i64 f, .int .i64 u]] W fun e w' => e = .returned (.tuple #[.agg #[.int .i64 c0, .int .i64 c1], .bool true]) ∧ Below W.heap.size W w')
    (KP : ∀ W, Calls Tryd.prog 18 #[.agg #[.int .i64 c0, .int .i64 c1]] W fun e w' => e = .returned (.bool true) ∧ Gr W w')
    (K1 : ∀ W, Calls Tryd.prog 19 #[.agg #[.int .i64 f, .int .i64 u], .int .i64 d] W fun e w' => e = .returned (.bool true) ∧ Gr W w')
    (K2 : ∀ W, Calls Tryd.prog 19 #[.agg #[.int .i64 f', .int .i64 u'], .int .i64 d] W fun e w' => e = .returned (.bool b) ∧ Gr W w')
    (K3 : ∀ W, Calls Tryd.prog 19 #[.agg #[.int .i64 c0, .int .i64 c1], .int .i64 d] W fun e w' => e = .returned (.bool b) ∧ Gr W w')
    (K4 : ∀ W, Calls Tryd.prog 19 #[.agg #[.int .i64 f, .int .i64 u], .int .i64 (max f f')] W fun e w' => e = .returned (.bool true) ∧ Gr W w')
    (K5 : ∀ W, Calls Tryd.prog 19 #[.agg #[.int .i64 f', .int .i64 u'], .int .i64 (max f f')] W fun e w' => e = .returned (.bool true) ∧ Gr W w')
    : Calls Tryd.prog 9 #[.agg #[.int .i64 f, .int .i64 u], .agg #[.int .i64 f', .int .i64 u'], .int .i64 d] w (Yes w) := by
  have HKC := Lib.hid KC
  have HKD := Lib.hid KD
  have HKP := Lib.hid KP
  have HK1 := Lib.hid K1
  have HK2 := Lib.hid K2
  have HK3 := Lib.hid K3
  have HK4 := Lib.hid K4
  have HK5 := Lib.hid K5
  clear KC KD KP K1 K2 K3 K4 K5
  have nq := neq41
  have HL := Lib.hid hL
  clear hL
  have gA : Gr w ((w.alloc (.cells #[.int .i64 f, .int .i64 u] 41)).alloc (.cells #[.int .i64 f', .int .i64 u'] 41)) := (Gr.one _ _).alloc _
  have p0 : ((w.alloc (.cells #[.int .i64 f, .int .i64 u] 41)).alloc (.cells #[.int .i64 f', .int .i64 u'] 41)).cell? ⟨w.heap.size, 0, none⟩ = some (.int .i64 f) := Lib.cell?_alloc_some _ (by simp)
  have p1 : ((w.alloc (.cells #[.int .i64 f, .int .i64 u] 41)).alloc (.cells #[.int .i64 f', .int .i64 u'] 41)).cell? ⟨w.heap.size, 1, none⟩ = some (.int .i64 u) := Lib.cell?_alloc_some _ (by simp)
  have q0 : ((w.alloc (.cells #[.int .i64 f, .int .i64 u] 41)).alloc (.cells #[.int .i64 f', .int .i64 u'] 41)).cell? ⟨w.heap.size + 1, 0, none⟩ = some (.int .i64 f') := by simp
  have q1 : ((w.alloc (.cells #[.int .i64 f, .int .i64 u] 41)).alloc (.cells #[.int .i64 f', .int .i64 u'] 41)).cell? ⟨w.heap.size + 1, 1, none⟩ = some (.int .i64 u') := by simp
  have GA := Lib.hid gA
  clear gA
  go_enter Tryd.func9, Tryd.ntmps9
  go_wp2_with fail
  refine (head_any _ (HL.out.keep GA.out.below)).mono ?_
  rintro e w1 ⟨rfl, hb⟩
  replace p0 := cell_later hb p0
  replace p1 := cell_later hb p1
  replace q0 := cell_later hb q0
  replace q1 := cell_later hb q1
  have BB1 := Lib.hid (GA.out.below.trans (hb.mono GA.out.size))
  clear hb GA HL
  go_wp2_with fail
  refine (HKC.out _).mono ?_
  rintro e w2 ⟨rfl, hb⟩
  replace p0 := cell_later hb p0
  replace p1 := cell_later hb p1
  replace q0 := cell_later hb q0
  replace q1 := cell_later hb q1
  have BB2 := Lib.hid (BB1.out.trans (hb.mono BB1.out.size))
  clear hb BB1
  replace p0 := Lib.cell?_alloc_some (.cells #[.int .i64 c0, .int .i64 c1] 41) p0
  replace p1 := Lib.cell?_alloc_some (.cells #[.int .i64 c0, .int .i64 c1] 41) p1
  replace q0 := Lib.cell?_alloc_some (.cells #[.int .i64 c0, .int .i64 c1] 41) q0
  replace q1 := Lib.cell?_alloc_some (.cells #[.int .i64 c0, .int .i64 c1] 41) q1
  have a0 : (w2.alloc (.cells #[.int .i64 c0, .int .i64 c1] 41)).cell? ⟨w2.heap.size, 0, none⟩ = some (.int .i64 c0) := by simp
  have a1 : (w2.alloc (.cells #[.int .i64 c0, .int .i64 c1] 41)).cell? ⟨w2.heap.size, 1, none⟩ = some (.int .i64 c1) := by simp
  go_wp2_with fail
  refine (HKD.out _).mono ?_
  rintro e w3 ⟨rfl, hb⟩
  replace p0 := cell_later hb p0
  replace p1 := cell_later hb p1
  replace q0 := cell_later hb q0
  replace q1 := cell_later hb q1
  replace a0 := cell_later hb a0
  replace a1 := cell_later hb a1
  have BB3 := Lib.hid ((BB2.out.alloc BB2.out.size _).trans (hb.mono (by simp; have := BB2.out.size; omega)))
  clear hb BB2
  replace p0 := Lib.cell?_alloc_some (.cells #[.int .i64 c0, .int .i64 c1] 41) p0
  replace p1 := Lib.cell?_alloc_some (.cells #[.int .i64 c0, .int .i64 c1] 41) p1
  replace q0 := Lib.cell?_alloc_some (.cells #[.int .i64 c0, .int .i64 c1] 41) q0
  replace q1 := Lib.cell?_alloc_some (.cells #[.int .i64 c0, .int .i64 c1] 41) q1
  replace a0 := Lib.cell?_alloc_some (.cells #[.int .i64 c0, .int .i64 c1] 41) a0
  replace a1 := Lib.cell?_alloc_some (.cells #[.int .i64 c0, .int .i64 c1] 41) a1
  have e0 : (w3.alloc (.cells #[.int .i64 c0, .int .i64 c1] 41)).cell? ⟨w3.heap.size, 0, none⟩ = some (.int .i64 c0) := by simp
  have e1 : (w3.alloc (.cells #[.int .i64 c0, .int .i64 c1] 41)).cell? ⟨w3.heap.size, 1, none⟩ = some (.int .i64 c1) := by simp
  go_wp2_with fail
  refine (HKP.out _).mono ?_
  rintro e w4 ⟨rfl, hb⟩
  replace hb := hb.below
  replace p0 := cell_later hb p0
  replace p1 := cell_later hb p1
  replace q0 := cell_later hb q0
  replace q1 := cell_later hb q1
  replace a0 := cell_later hb a0
  replace a1 := cell_later hb a1
  replace e0 := cell_later hb e0
  replace e1 := cell_later hb e1
  have BB4 := Lib.hid ((BB3.out.alloc BB3.out.size _).trans (hb.mono (by simp; have := BB3.out.size; omega)))
  clear hb BB3
  go_wp2_with fail
  refine (HK1.out _).mono ?_
  rintro e w5 ⟨rfl, hb⟩
  replace hb := hb.below
  replace p0 := cell_later hb p0
  replace p1 := cell_later hb p1
  replace q0 := cell_later hb q0
  replace q1 := cell_later hb q1
  replace a0 := cell_later hb a0
  replace a1 := cell_later hb a1
  replace e0 := cell_later hb e0
  replace e1 := cell_later hb e1
  have BB5 := Lib.hid (BB4.out.trans (hb.mono BB4.out.size))
  clear hb BB4
  go_wp2_with fail
  refine (HK2.out _).mono ?_
  rintro e w6 ⟨rfl, hb⟩
  replace hb := hb.below
  replace p0 := cell_later hb p0
  replace p1 := cell_later hb p1
  replace q0 := cell_later hb q0
  replace q1 := cell_later hb q1
  replace a0 := cell_later hb a0
  replace a1 := cell_later hb a1
  replace e0 := cell_later hb e0
  replace e1 := cell_later hb e1
  have BB6 := Lib.hid (BB5.out.trans (hb.mono BB5.out.size))
  clear hb BB5
  go_wp2_with fail
  refine (HK3.out _).mono ?_
  rintro e w7 ⟨rfl, hb⟩
  replace hb := hb.below
  replace p0 := cell_later hb p0
  replace p1 := cell_later hb p1
  replace q0 := cell_later hb q0
  replace q1 := cell_later hb q1
  replace a0 := cell_later hb a0
  replace a1 := cell_later hb a1
  replace e0 := cell_later hb e0
  replace e1 := cell_later hb e1
  have BB7 := Lib.hid (BB6.out.trans (hb.mono BB6.out.size))
  clear hb BB6
  go_wp2_with fail
  refine (HK4.out _).mono ?_
  rintro e w8 ⟨rfl, hb⟩
  replace hb := hb.below
  replace p0 := cell_later hb p0
  replace p1 := cell_later hb p1
  replace q0 := cell_later hb q0
  replace q1 := cell_later hb q1
  replace a0 := cell_later hb a0
  replace a1 := cell_later hb a1
  replace e0 := cell_later hb e0
  replace e1 := cell_later hb e1
  have BB8 := Lib.hid (BB7.out.trans (hb.mono BB7.out.size))
  clear hb BB7
  go_wp2_with fail
  refine (HK5.out _).mono ?_
  rintro e w9 ⟨rfl, hb⟩
  replace hb := hb.below
  replace p0 := cell_later hb p0
  replace p1 := cell_later hb p1
  replace q0 := cell_later hb q0
  replace q1 := cell_later hb q1
  replace a0 := cell_later hb a0
  replace a1 := cell_later hb a1
  replace e0 := cell_later hb e0
  replace e1 := cell_later hb e1
  have BB9 := Lib.hid (BB8.out.trans (hb.mono BB8.out.size))
  clear hb BB8
  go_wp2_with fail
  go_ret
  exact ⟨rfl, BB9.out⟩

set_option maxHeartbeats 2000000 in
set_option maxRecDepth 100000 in
theorem common_tf (f u f' u' d c0 c1 : Int) (w : World) (hL : Laid w)
    (KC : ∀ W, Calls Tryd.prog 21 #[.agg #[.int .i64 f, .int .i64 u], .agg #[.int .i64 f', .int .i64 u']] W fun e w' => e = .returned (.tuple #[.agg #[.int .i64 c0, .int .i64 c1], .bool true]) ∧ Below W.heap.size W w')
    (KD : ∀ W, Calls Tryd.prog 21 #[.agg #[.int .i64 f', .int .i64 u'], .agg #[.int .i64 f, .int .i64 u]] W fun e w' => e = .returned (.tuple #[.agg #[.int .i64 c0, .int .i64 c1], .bool true]) ∧ Below W.heap.size W w')
    (KP : ∀ W, Calls Tryd.prog 18 #[.agg #[.int .i64 c0, .int .i64 c1]] W fun e w' => e = .returned (.bool true) ∧ Gr W w')
    (K1 : ∀ W, Calls Tryd.prog 19 #[.agg #[.int .i64 f, .int .i64 u], .int .i64 d] W fun e w' => e = .returned (.bool false) ∧ Gr W w')
    (K3 : ∀ W, Calls Tryd.prog 19 #[.agg #[.int .i64 c0, .int .i64 c1], .int .i64 d] W fun e w' => e = .returned (.bool false) ∧ Gr W w')
    (K4 : ∀ W, Calls Tryd.prog 19 #[.agg #[.int .i64 f, .int .i64 u], .int .i64 (max f f')] W fun e w' => e = .returned (.bool true) ∧ Gr W w')
    (K5 : ∀ W, Calls Tryd.prog 19 #[.agg #[.int .i64 f', .int .i64 u'], .int .i64 (max f f')] W fun e w' => e = .returned (.bool true) ∧ Gr W w')
    : Calls Tryd.prog 9 #[.agg #[.int .i64 f, .int .i64 u], .agg #[.int .i64 f', .int .i64 u'], .int .i64 d] w (Yes w) := by
  have HKC := Lib.hid KC
  have HKD := Lib.hid KD
  have HKP := Lib.hid KP
  have HK1 := Lib.hid K1
  have HK3 := Lib.hid K3
  have HK4 := Lib.hid K4
  have HK5 := Lib.hid K5
  clear KC KD KP K1 K3 K4 K5
  have nq := neq41
  have HL := Lib.hid hL
  clear hL
  have gA : Gr w ((w.alloc (.cells #[.int .i64 f, .int .i64 u] 41)).alloc (.cells #[.int .i64 f', .int .i64 u'] 41)) := (Gr.one _ _).alloc _
  have p0 : ((w.alloc (.cells #[.int .i64 f, .int .i64 u] 41)).alloc (.cells #[.int .i64 f', .int .i64 u'] 41)).cell? ⟨w.heap.size, 0, none⟩ = some (.int .i64 f) := Lib.cell?_alloc_some _ (by simp)
  have p1 : ((w.alloc (.cells #[.int .i64 f, .int .i64 u] 41)).alloc (.cells #[.int .i64 f', .int .i64 u'] 41)).cell? ⟨w.heap.size, 1, none⟩ = some (.int .i64 u) := Lib.cell?_alloc_some _ (by simp)
  have q0 : ((w.alloc (.cells #[.int .i64 f, .int .i64 u] 41)).alloc (.cells #[.int .i64 f', .int .i64 u'] 41)).cell? ⟨w.heap.size + 1, 0, none⟩ = some (.int .i64 f') := by simp
  have q1 : ((w.alloc (.cells #[.int .i64 f, .int .i64 u] 41)).alloc (.cells #[.int .i64 f', .int .i64 u'] 41)).cell? ⟨w.heap.size + 1, 1, none⟩ = some (.int .i64 u') := by simp
  have GA := Lib.hid gA
  clear gA
  go_enter Tryd.func9, Tryd.ntmps9
  go_wp2_with fail
  refine (head_any _ (HL.out.keep GA.out.below)).mono ?_
  rintro e w1 ⟨rfl, hb⟩
  replace p0 := cell_later hb p0
  replace p1 := cell_later hb p1
  replace q0 := cell_later hb q0
  replace q1 := cell_later hb q1
  have BB1 := Lib.hid (GA.out.below.trans (hb.mono GA.out.size))
  clear hb GA HL
  go_wp2_with fail
  refine (HKC.out _).mono ?_
  rintro e w2 ⟨rfl, hb⟩
  replace p0 := cell_later hb p0
  replace p1 := cell_later hb p1
  replace q0 := cell_later hb q0
  replace q1 := cell_later hb q1
  have BB2 := Lib.hid (BB1.out.trans (hb.mono BB1.out.size))
  clear hb BB1
  replace p0 := Lib.cell?_alloc_some (.cells #[.int .i64 c0, .int .i64 c1] 41) p0
  replace p1 := Lib.cell?_alloc_some (.cells #[.int .i64 c0, .int .i64 c1] 41) p1
  replace q0 := Lib.cell?_alloc_some (.cells #[.int .i64 c0, .int .i64 c1] 41) q0
  replace q1 := Lib.cell?_alloc_some (.cells #[.int .i64 c0, .int .i64 c1] 41) q1
  have a0 : (w2.alloc (.cells #[.int .i64 c0, .int .i64 c1] 41)).cell? ⟨w2.heap.size, 0, none⟩ = some (.int .i64 c0) := by simp
  have a1 : (w2.alloc (.cells #[.int .i64 c0, .int .i64 c1] 41)).cell? ⟨w2.heap.size, 1, none⟩ = some (.int .i64 c1) := by simp
  go_wp2_with fail
  refine (HKD.out _).mono ?_
  rintro e w3 ⟨rfl, hb⟩
  replace p0 := cell_later hb p0
  replace p1 := cell_later hb p1
  replace q0 := cell_later hb q0
  replace q1 := cell_later hb q1
  replace a0 := cell_later hb a0
  replace a1 := cell_later hb a1
  have BB3 := Lib.hid ((BB2.out.alloc BB2.out.size _).trans (hb.mono (by simp; have := BB2.out.size; omega)))
  clear hb BB2
  replace p0 := Lib.cell?_alloc_some (.cells #[.int .i64 c0, .int .i64 c1] 41) p0
  replace p1 := Lib.cell?_alloc_some (.cells #[.int .i64 c0, .int .i64 c1] 41) p1
  replace q0 := Lib.cell?_alloc_some (.cells #[.int .i64 c0, .int .i64 c1] 41) q0
  replace q1 := Lib.cell?_alloc_some (.cells #[.int .i64 c0, .int .i64 c1] 41) q1
  replace a0 := Lib.cell?_alloc_some (.cells #[.int .i64 c0, .int .i64 c1] 41) a0
  replace a1 := Lib.cell?_alloc_some (.cells #[.int .i64 c0, .int .i64 c1] 41) a1
  have e0 : (w3.alloc (.cells #[.int .i64 c0, .int .i64 c1] 41)).cell? ⟨w3.heap.size, 0, none⟩ = some (.int .i64 c0) := by simp
  have e1 : (w3.alloc (.cells #[.int .i64 c0, .int .i64 c1] 41)).cell? ⟨w3.heap.size, 1, none⟩ = some (.int .i64 c1) := by simp
  go_wp2_with fail
  refine (HKP.out _).mono ?_
  rintro e w4 ⟨rfl, hb⟩
  replace hb := hb.below
  replace p0 := cell_later hb p0
  replace p1 := cell_later hb p1
  replace q0 := cell_later hb q0
  replace q1 := cell_later hb q1
  replace a0 := cell_later hb a0
  replace a1 := cell_later hb a1
  replace e0 := cell_later hb e0
  replace e1 := cell_later hb e1
  have BB4 := Lib.hid ((BB3.out.alloc BB3.out.size _).trans (hb.mono (by simp; have := BB3.out.size; omega)))
  clear hb BB3
  go_wp2_with fail
  refine (HK1.out _).mono ?_
  rintro e w5 ⟨rfl, hb⟩
  replace hb := hb.below
  replace p0 := cell_later hb p0
  replace p1 := cell_later hb p1
  replace q0 := cell_later hb q0
  replace q1 := cell_later hb q1
  replace a0 := cell_later hb a0
  replace a1 := cell_later hb a1
  replace e0 := cell_later hb e0
  replace e1 := cell_later hb e1
  have BB5 := Lib.hid (BB4.out.trans (hb.mono BB4.out.size))
  clear hb BB4
  go_wp2_with fail
  refine (HK3.out _).mono ?_
  rintro e w6 ⟨rfl, hb⟩
  replace hb := hb.below
  replace p0 := cell_later hb p0
  replace p1 := cell_later hb p1
  replace q0 := cell_later hb q0
  replace q1 := cell_later hb q1
  replace a0 := cell_later hb a0
  replace a1 := cell_later hb a1
  replace e0 := cell_later hb e0
  replace e1 := cell_later hb e1
  have BB6 := Lib.hid (BB5.out.trans (hb.mono BB5.out.size))
  clear hb BB5
  go_wp2_with fail
  refine (HK4.out _).mono ?_
  rintro e w7 ⟨rfl, hb⟩
  replace hb := hb.below
  replace p0 := cell_later hb p0
  replace p1 := cell_later hb p1
  replace q0 := cell_later hb q0
  replace q1 := cell_later hb q1
  replace a0 := cell_later hb a0
  replace a1 := cell_later hb a1
  replace e0 := cell_later hb e0
  replace e1 := cell_later hb e1
  have BB7 := Lib.hid (BB6.out.trans (hb.mono BB6.out.size))
  clear hb BB6
  go_wp2_with fail
  refine (HK5.out _).mono ?_
  rintro e w8 ⟨rfl, hb⟩
  replace hb := hb.below
  replace p0 := cell_later hb p0
  replace p1 := cell_later hb p1
  replace q0 := cell_later hb q0
  replace q1 := cell_later hb q1
  replace a0 := cell_later hb a0
  replace a1 := cell_later hb a1
  replace e0 := cell_later hb e0
  replace e1 := cell_later hb e1
  have BB8 := Lib.hid (BB7.out.trans (hb.mono BB7.out.size))
  clear hb BB7
  go_wp2_with fail
  go_ret
  exact ⟨rfl, BB8.out⟩

set_option maxHeartbeats 2000000 in
set_option maxRecDepth 100000 in
theorem common_ftt (f u f' u' d c0 c1 : Int) (w : World) (hL : Laid w)
    (KC : ∀ W, Calls Tryd.prog 21 #[.agg #[.int .i64 f, .int .i64 u], .agg #[.int .i64 f', .int .i64 u']] W fun e w' => e = .returned (.tuple #[.agg #[.int .i64 c0, .int .i64 c1], .bool false]) ∧ Below W.heap.size W w')
    (KD : ∀ W, Calls Tryd.prog 21 #[.agg #[.int .i64 f', .int .i64 u'], .agg #[.int .i64 f, .int .i64 u]] W fun e w' => e = .returned (.tuple #[.agg #[.int .i64 c0, .int .i64 c1], .bool false]) ∧ Below W.heap.size W w')
    (h0 : (c0 == 0) = true) (h1 : (c1 == 0) = true)
    (K1 : ∀ W, Calls Tryd.prog 19 #[.agg #[.int .i64 f, .int .i64 u], .int .i64 d] W fun e w' => e = .returned (.bool true) ∧ Gr W w')
    (K2 : ∀ W, Calls Tryd.prog 19 #[.agg #[.int .i64 f', .int .i64 u'], .int .i64 d] W fun e w' => e = .returned (.bool false) ∧ Gr W w')
    (K4 : ∀ W, Calls Tryd.prog 19 #[.agg #[.int .i64 f, .int .i64 u], .int .i64 (max f f')] W fun e w' => e = .returned (.bool true) ∧ Gr W w')
    (K5 : ∀ W, Calls Tryd.prog 19 #[.agg #[.int .i64 f', .int .i64 u'], .int .i64 (max f f')] W fun e w' => e = .returned (.bool false) ∧ Gr W w')
    : Calls Tryd.prog 9 #[.agg #[.int .i64 f, .int .i64 u], .agg #[.int .i64 f', .int .i64 u'], .int .i64 d] w (Yes w) := by
  have HKC := Lib.hid KC
  have HKD := Lib.hid KD
  have HK1 := Lib.hid K1
  have HK2 := Lib.hid K2
  have HK4 := Lib.hid K4
  have HK5 := Lib.hid K5
  clear KC KD K1 K2 K4 K5
  have nq := neq41
  have HL := Lib.hid hL
  clear hL
  have gA : Gr w ((w.alloc (.cells #[.int .i64 f, .int .i64 u] 41)).alloc (.cells #[.int .i64 f', .int .i64 u'] 41)) := (Gr.one _ _).alloc _
  have p0 : ((w.alloc (.cells #[.int .i64 f, .int .i64 u] 41)).alloc (.cells #[.int .i64 f', .int .i64 u'] 41)).cell? ⟨w.heap.size, 0, none⟩ = some (.int .i64 f) := Lib.cell?_alloc_some _ (by simp)
  have p1 : ((w.alloc (.cells #[.int .i64 f, .int .i64 u] 41)).alloc (.cells #[.int .i64 f', .int .i64 u'] 41)).cell? ⟨w.heap.size, 1, none⟩ = some (.int .i64 u) := Lib.cell?_alloc_some _ (by simp)
  have q0 : ((w.alloc (.cells #[.int .i64 f, .int .i64 u] 41)).alloc (.cells #[.int .i64 f', .int .i64 u'] 41)).cell? ⟨w.heap.size + 1, 0, none⟩ = some (.int .i64 f') := by simp
  have q1 : ((w.alloc (.cells #[.int .i64 f, .int .i64 u] 41)).alloc (.cells #[.int .i64 f', .int .i64 u'] 41)).cell? ⟨w.heap.size + 1, 1, none⟩ = some (.int .i64 u') := by simp
  have GA := Lib.hid gA
  clear gA
  go_enter Tryd.func9, Tryd.ntmps9
  go_wp2_with fail
  refine (head_any _ (HL.out.keep GA.out.below)).mono ?_
  rintro e w1 ⟨rfl, hb⟩
  replace p0 := cell_later hb p0
  replace p1 := cell_later hb p1
  replace q0 := cell_later hb q0
  replace q1 := cell_later hb q1
  have BB1 := Lib.hid (GA.out.below.trans (hb.mono GA.out.size))
  clear hb GA HL
  go_wp2_with fail
  refine (HKC.out _).mono ?_
  rintro e w2 ⟨rfl, hb⟩
  replace p0 := cell_later hb p0
  replace p1 := cell_later hb p1
  replace q0 := cell_later hb q0
  replace q1 := cell_later hb q1
  have BB2 := Lib.hid (BB1.out.trans (hb.mono BB1.out.size))
  clear hb BB1
  replace p0 := Lib.cell?_alloc_some (.cells #[.int .i64 c0, .int .i64 c1] 41) p0
  replace p1 := Lib.cell?_alloc_some (.cells #[.int .i64 c0, .int .i64 c1] 41) p1
  replace q0 := Lib.cell?_alloc_some (.cells #[.int .i64 c0, .int .i64 c1] 41) q0
  replace q1 := Lib.cell?_alloc_some (.cells #[.int .i64 c0, .int .i64 c1] 41) q1
  have a0 : (w2.alloc (.cells #[.int .i64 c0, .int .i64 c1] 41)).cell? ⟨w2.heap.size, 0, none⟩ = some (.int .i64 c0) := by simp
  have a1 : (w2.alloc (.cells #[.int .i64 c0, .int .i64 c1] 41)).cell? ⟨w2.heap.size, 1, none⟩ = some (.int .i64 c1) := by simp
  go_wp2_with fail
  refine (HKD.out _).mono ?_
  rintro e w3 ⟨rfl, hb⟩
  replace p0 := cell_later hb p0
  replace p1 := cell_later hb p1
  replace q0 := cell_later hb q0
  replace q1 := cell_later hb q1
  replace a0 := cell_later hb a0
  replace a1 := cell_later hb a1
  have BB3 := Lib.hid ((BB2.out.alloc BB2.out.size _).trans (hb.mono (by simp; have := BB2.out.size; omega)))
  clear hb BB2
  replace p0 := Lib.cell?_alloc_some (.cells #[.int .i64 c0, .int .i64 c1] 41) p0
  replace p1 := Lib.cell?_alloc_some (.cells #[.int .i64 c0, .int .i64 c1] 41) p1
  replace q0 := Lib.cell?_alloc_some (.cells #[.int .i64 c0, .int .i64 c1] 41) q0
  replace q1 := Lib.cell?_alloc_some (.cells #[.int .i64 c0, .int .i64 c1] 41) q1
  replace a0 := Lib.cell?_alloc_some (.cells #[.int .i64 c0, .int .i64 c1] 41) a0
  replace a1 := Lib.cell?_alloc_some (.cells #[.int .i64 c0, .int .i64 c1] 41) a1
  have e0 : (w3.alloc (.cells #[.int .i64 c0, .int .i64 c1] 41)).cell? ⟨w3.heap.size, 0, none⟩ = some (.int .i64 c0) := by simp
  have e1 : (w3.alloc (.cells #[.int .i64 c0, .int .i64 c1] 41)).cell? ⟨w3.heap.size, 1, none⟩ = some (.int .i64 c1) := by simp
  go_wp2_with fail
  refine (HK1.out _).mono ?_
  rintro e w4 ⟨rfl, hb⟩
  replace hb := hb.below
  replace p0 := cell_later hb p0
  replace p1 := cell_later hb p1
  replace q0 := cell_later hb q0
  replace q1 := cell_later hb q1
  replace a0 := cell_later hb a0
  replace a1 := cell_later hb a1
  replace e0 := cell_later hb e0
  replace e1 := cell_later hb e1
  have BB4 := Lib.hid ((BB3.out.alloc BB3.out.size _).trans (hb.mono (by simp; have := BB3.out.size; omega)))
  clear hb BB3
  go_wp2_with fail
  refine (HK2.out _).mono ?_
  rintro e w5 ⟨rfl, hb⟩
  replace hb := hb.below
  replace p0 := cell_later hb p0
  replace p1 := cell_later hb p1
  replace q0 := cell_later hb q0
  replace q1 := cell_later hb q1
  replace a0 := cell_later hb a0
  replace a1 := cell_later hb a1
  replace e0 := cell_later hb e0
  replace e1 := cell_later hb e1
  have BB5 := Lib.hid (BB4.out.trans (hb.mono BB4.out.size))
  clear hb BB4
  go_wp2_with fail
  refine (HK4.out _).mono ?_
  rintro e w6 ⟨rfl, hb⟩
  replace hb := hb.below
  replace p0 := cell_later hb p0
  replace p1 := cell_later hb p1
  replace q0 := cell_later hb q0
  replace q1 := cell_later hb q1
  replace a0 := cell_later hb a0
  replace a1 := cell_later hb a1
  replace e0 := cell_later hb e0
  replace e1 := cell_later hb e1
  have BB6 := Lib.hid (BB5.out.trans (hb.mono BB5.out.size))
  clear hb BB5
  go_wp2_with fail
  refine (HK5.out _).mono ?_
  rintro e w7 ⟨rfl, hb⟩
  replace hb := hb.below
  replace p0 := cell_later hb p0
  replace p1 := cell_later hb p1
  replace q0 := cell_later hb q0
  replace q1 := cell_later hb q1
  replace a0 := cell_later hb a0
  replace a1 := cell_later hb a1
  replace e0 := cell_later hb e0
  replace e1 := cell_later hb e1
  have BB7 := Lib.hid (BB6.out.trans (hb.mono BB6.out.size))
  clear hb BB6
  go_wp2_with fail
  go_ret
  exact ⟨rfl, BB7.out⟩

set_option maxHeartbeats 2000000 in
set_option maxRecDepth 100000 in
theorem common_ftf (f u f' u' d c0 c1 : Int) (w : World) (hL : Laid w)
    (KC : ∀ W, Calls Tryd.prog 21 #[.agg #[.int .i64 f, .int .i64 u], .agg #[.int .i64 f', .int .i64 u']] W fun e w' => e = .returned (.tuple #[.agg #[.int .i64 c0, .int .i64 c1], .bool false]) ∧ Below W.heap.size W w')
    (KD : ∀ W, Calls Tryd.prog 21 #[.agg #[.int .i64 f', .int .i64 u'], .agg #[.int .i64 f, .int .i64 u]] W fun e w' => e = .returned (.tuple #[.agg #[.int .i64 c0, .int .i64 c1], .bool false]) ∧ Below W.heap.size W w')
    (h0 : (c0 == 0) = true) (h1 : (c1 == 0) = true)
    (K1 : ∀ W, Calls Tryd.prog 19 #[.agg #[.int .i64 f, .int .i64 u], .int .i64 d] W fun e w' => e = .returned (.bool true) ∧ Gr W w')
    (K2 : ∀ W, Calls Tryd.prog 19 #[.agg #[.int .i64 f', .int .i64 u'], .int .i64 d] W fun e w' => e = .returned (.bool false) ∧ Gr W w')
    (K4 : ∀ W, Calls Tryd.prog 19 #[.agg #[.int .i64 f, .int .i64 u], .int .i64 (max f f')] W fun e w' => e = .returned (.bool false) ∧ Gr W w')
    : Calls Tryd.prog 9 #[.agg #[.int .i64 f, .int .i64 u], .agg #[.int .i64 f', .int .i64 u'], .int .i64 d] w (Yes w) := by
  have HKC := Lib.hid KC
  have HKD := Lib.hid KD
  have HK1 := Lib.hid K1
  have HK2 := Lib.hid K2
  have HK4 := Lib.hid K4
  clear KC KD K1 K2 K4
  have nq := neq41
  have HL := Lib.hid hL
  clear hL
  have gA : Gr w ((w.alloc (.cells #[.int .i64 f, .int .i64 u] 41)).alloc (.cells #[.int .i64 f', .int .i64 u'] 41)) := (Gr.one _ _).alloc _
  have p0 : ((w.alloc (.cells #[.int .i64 f, .int .i64 u] 41)).alloc (.cells #[.int .i64 f', .int .i64 u'] 41)).cell? ⟨w.heap.size, 0, none⟩ = some (.int .i64 f) := Lib.cell?_alloc_some _ (by simp)
  have p1 : ((w.alloc (.cells #[.int .i64 f, .int .i64 u] 41)).alloc (.cells #[.int .i64 f', .int .i64 u'] 41)).cell? ⟨w.heap.size, 1, none⟩ = some (.int .i64 u) := Lib.cell?_alloc_some _ (by simp)
  have q0 : ((w.alloc (.cells #[.int .i64 f, .int .i64 u] 41)).alloc (.cells #[.int .i64 f', .int .i64 u'] 41)).cell? ⟨w.heap.size + 1, 0, none⟩ = some (.int .i64 f') := by simp
  have q1 : ((w.alloc (.cells #[.int .i64 f, .int .i64 u] 41)).alloc (.cells #[.int .i64 f', .int .i64 u'] 41)).cell? ⟨w.heap.size + 1, 1, none⟩ = some (.int .i64 u') := by simp
  have GA := Lib.hid gA
  clear gA
  go_enter Tryd.func9, Tryd.ntmps9
  go_wp2_with fail
  refine (head_any _ (HL.out.keep GA.out.below)).mono ?_
  rintro e w1 ⟨rfl, hb⟩
  replace p0 := cell_later hb p0
  replace p1 := cell_later hb p1
  replace q0 := cell_later hb q0
  replace q1 := cell_later hb q1
  have BB1 := Lib.hid (GA.out.below.trans (hb.mono GA.out.size))
  clear hb GA HL
  go_wp2_with fail
  refine (HKC.out _).mono ?_
  rintro e w2 ⟨rfl, hb⟩
  replace p0 := cell_later hb p0
  replace p1 := cell_later hb p1
  replace q0 := cell_later hb q0
  replace q1 := cell_later hb q1
  have BB2 := Lib.hid (BB1.out.trans (hb.mono BB1.out.size))
  clear hb BB1
  replace p0 := Lib.cell?_alloc_some (.cells #[.int .i64 c0, .int .i64 c1] 41) p0
  replace p1 := Lib.cell?_alloc_some (.cells #[.int .i64 c0, .int .i64 c1] 41) p1
  replace q0 := Lib.cell?_alloc_some (.cells #[.int .i64 c0, .int .i64 c1] 41) q0
  replace q1 := Lib.cell?_alloc_some (.cells #[.int .i64 c0, .int .i64 c1] 41) q1
  have a0 : (w2.alloc (.cells #[.int .i64 c0, .int .i64 c1] 41)).cell? ⟨w2.heap.size, 0, none⟩ = some (.int .i64 c0) := by simp
  have a1 : (w2.alloc (.cells #[.int .i64 c0, .int .i64 c1] 41)).cell? ⟨w2.heap.size, 1, none⟩ = some (.int .i64 c1) := by simp
  go_wp2_with fail
  refine (HKD.out _).mono ?_
  rintro e w3 ⟨rfl, hb⟩
  replace p0 := cell_later hb p0
  replace p1 := cell_later hb p1
  replace q0 := cell_later hb q0
  replace q1 := cell_later hb q1
  replace a0 := cell_later hb a0
  replace a1 := cell_later hb a1
  have BB3 := Lib.hid ((BB2.out.alloc BB2.out.size _).trans (hb.mono (by simp; have := BB2.out.size; omega)))
  clear hb BB2
  replace p0 := Lib.cell?_alloc_some (.cells #[.int .i64 c0, .int .i64 c1] 41) p0
  replace p1 := Lib.cell?_alloc_some (.cells #[.int .i64 c0, .int .i64 c1] 41) p1
  replace q0 := Lib.cell?_alloc_some (.cells #[.int .i64 c0, .int .i64 c1] 41) q0
  replace q1 := Lib.cell?_alloc_some (.cells #[.int .i64 c0, .int .i64 c1] 41) q1
  replace a0 := Lib.cell?_alloc_some (.cells #[.int .i64 c0, .int .i64 c1] 41) a0
  replace a1 := Lib.cell?_alloc_some (.cells #[.int .i64 c0, .int .i64 c1] 41) a1
  have e0 : (w3.alloc (.cells #[.int .i64 c0, .int .i64 c1] 41)).cell? ⟨w3.heap.size, 0, none⟩ = some (.int .i64 c0) := by simp
  have e1 : (w3.alloc (.cells #[.int .i64 c0, .int .i64 c1] 41)).cell? ⟨w3.heap.size, 1, none⟩ = some (.int .i64 c1) := by simp
  go_wp2_with fail
  refine (HK1.out _).mono ?_
  rintro e w4 ⟨rfl, hb⟩
  replace hb := hb.below
  replace p0 := cell_later hb p0
  replace p1 := cell_later hb p1
  replace q0 := cell_later hb q0
  replace q1 := cell_later hb q1
  replace a0 := cell_later hb a0
  replace a1 := cell_later hb a1
  replace e0 := cell_later hb e0
  replace e1 := cell_later hb e1
  have BB4 := Lib.hid ((BB3.out.alloc BB3.out.size _).trans (hb.mono (by simp; have := BB3.out.size; omega)))
  clear hb BB3
  go_wp2_with fail
  refine (HK2.out _).mono ?_
  rintro e w5 ⟨rfl, hb⟩
  replace hb := hb.below
  replace p0 := cell_later hb p0
  replace p1 := cell_later hb p1
  replace q0 := cell_later hb q0
  replace q1 := cell_later hb q1
  replace a0 := cell_later hb a0
  replace a1 := cell_later hb a1
  replace e0 := cell_later hb e0
  replace e1 := cell_later hb e1
  have BB5 := Lib.hid (BB4.out.trans (hb.mono BB4.out.size))
  clear hb BB4
  go_wp2_with fail
  refine (HK4.out _).mono ?_
  rintro e w6 ⟨rfl, hb⟩
  replace hb := hb.below
  replace p0 := cell_later hb p0
  replace p1 := cell_later hb p1
  replace q0 := cell_later hb q0
  replace q1 := cell_later hb q1
  replace a0 := cell_later hb a0
  replace a1 := cell_later hb a1
  replace e0 := cell_later hb e0
  replace e1 := cell_later hb e1
  have BB6 := Lib.hid (BB5.out.trans (hb.mono BB5.out.size))
  clear hb BB5
  go_wp2_with fail
  go_ret
  exact ⟨rfl, BB6.out⟩

set_option maxHeartbeats 2000000 in
set_option maxRecDepth 100000 in
theorem common_fft (f u f' u' d c0 c1 : Int) (w : World) (hL : Laid w)
    (KC : ∀ W, Calls Tryd.prog 21 #[.agg #[.int .i64 f, .int .i64 u], .agg #[.int .i64 f', .int .i64 u']] W fun e w' => e = .returned (.tuple #[.agg #[.int .i64 c0, .int .i64 c1], .bool false]) ∧ Below W.heap.size W w')
    (KD : ∀ W, Calls Tryd.prog 21 #[.agg #[.int .i64 f', .int .i64 u'], .agg #[.int .i64 f, .int .i64 u]] W fun e w' => e = .returned (.tuple #[.agg #[.int .i64 c0, .int .i64 c1], .bool false]) ∧ Below W.heap.size W w')
    (h0 : (c0 == 0) = true) (h1 : (c1 == 0) = true)
    (K1 : ∀ W, Calls Tryd.prog 19 #[.agg #[.int .i64 f, .int .i64 u], .int .i64 d] W fun e w' => e = .returned (.bool false) ∧ Gr W w')
    (K4 : ∀ W, Calls Tryd.prog 19 #[.agg #[.int .i64 f, .int .i64 u], .int .i64 (max f f')] W fun e w' => e = .returned (.bool true) ∧ Gr W w')
    (K5 : ∀ W, Calls Tryd.prog 19 #[.agg #[.int .i64 f', .int .i64 u'], .int .i64 (max f f')] W fun e w' => e = .returned (.bool false) ∧ Gr W w')
    : Calls Tryd.prog 9 #[.agg #[.int .i64 f, .int .i64 u], .agg #[.int .i64 f', .int .i64 u'], .int .i64 d] w (Yes w) := by
  have HKC := Lib.hid KC
  have HKD := Lib.hid KD
  have HK1 := Lib.hid K1
  have HK4 := Lib.hid K4
  have HK5 := Lib.hid K5
  clear KC KD K1 K4 K5
  have nq := neq41
  have HL := Lib.hid hL
  clear hL
  have gA : Gr w ((w.alloc (.cells #[.int .i64 f, .int .i64 u] 41)).alloc (.cells #[.int .i64 f', .int .i64 u'] 41)) := (Gr.one _ _).alloc _
  have p0 : ((w.alloc (.cells #[.int .i64 f, .int .i64 u] 41)).alloc (.cells #[.int .i64 f', .int .i64 u'] 41)).cell? ⟨w.heap.size, 0, none⟩ = some (.int .i64 f) := Lib.cell?_alloc_some _ (by simp)
  have p1 : ((w.alloc (.cells #[.int .i64 f, .int .i64 u] 41)).alloc (.cells #[.int .i64 f', .int .i64 u'] 41)).cell? ⟨w.heap.size, 1, none⟩ = some (.int .i64 u) := Lib.cell?_alloc_some _ (by simp)
  have q0 : ((w.alloc (.cells #[.int .i64 f, .int .i64 u] 41)).alloc (.cells #[.int .i64 f', .int .i64 u'] 41)).cell? ⟨w.heap.size + 1, 0, none⟩ = some (.int .i64 f') := by simp
  have q1 : ((w.alloc (.cells #[.int .i64 f, .int .i64 u] 41)).alloc (.cells #[.int .i64 f', .int .i64 u'] 41)).cell? ⟨w.heap.size + 1, 1, none⟩ = some (.int .i64 u') := by simp
  have GA := Lib.hid gA
  clear gA
  go_enter Tryd.func9, Tryd.ntmps9
  go_wp2_with fail
  refine (head_any _ (HL.out.keep GA.out.below)).mono ?_
  rintro e w1 ⟨rfl, hb⟩
  replace p0 := cell_later hb p0
  replace p1 := cell_later hb p1
  replace q0 := cell_later hb q0
  replace q1 := cell_later hb q1
  have BB1 := Lib.hid (GA.out.below.trans (hb.mono GA.out.size))
  clear hb GA HL
  go_wp2_with fail
  refine (HKC.out _).mono ?_
  rintro e w2 ⟨rfl, hb⟩
  replace p0 := cell_later hb p0
  replace p1 := cell_later hb p1
  replace q0 := cell_later hb q0
  replace q1 := cell_later hb q1
  have BB2 := Lib.hid (BB1.out.trans (hb.mono BB1.out.size))
  clear hb BB1
  replace p0 := Lib.cell?_alloc_some (.cells #[.int .i64 c0, .int .i64 c1] 41) p0
  replace p1 := Lib.cell?_alloc_some (.cells #[.int .i64 c0, .int .i64 c1] 41) p1
  replace q0 := Lib.cell?_alloc_some (.cells #[.int .i64 c0, .int .i64 c1] 41) q0
  replace q1 := Lib.cell?_alloc_some (.cells #[.int .i64 c0, .int .i64 c1] 41) q1
  have a0 : (w2.alloc (.cells #[.int .i64 c0, .int .i64 c1] 41)).cell? ⟨w2.heap.size, 0, none⟩ = some (.int .i64 c0) := by simp
  have a1 : (w2.alloc (.cells #[.int .i64 c0, .int .i64 c1] 41)).cell? ⟨w2.heap.size, 1, none⟩ = some (.int .i64 c1) := by simp
  go_wp2_with fail
  refine (HKD.out _).mono ?_
  rintro e w3 ⟨rfl, hb⟩
  replace p0 := cell_later hb p0
  replace p1 := cell_later hb p1
  replace q0 := cell_later hb q0
  replace q1 := cell_later hb q1
  replace a0 := cell_later hb a0
  replace a1 := cell_later hb a1
  have BB3 := Lib.hid ((BB2.out.alloc BB2.out.size _).trans (hb.mono (by simp; have := BB2.out.size; omega)))
  clear hb BB2
  replace p0 := Lib.cell?_alloc_some (.cells #[.int .i64 c0, .int .i64 c1] 41) p0
  replace p1 := Lib.cell?_alloc_some (.cells #[.int .i64 c0, .int .i64 c1] 41) p1
  replace q0 := Lib.cell?_alloc_some (.cells #[.int .i64 c0, .int .i64 c1] 41) q0
  replace q1 := Lib.cell?_alloc_some (.cells #[.int .i64 c0, .int .i64 c1] 41) q1
  replace a0 := Lib.cell?_alloc_some (.cells #[.int .i64 c0, .int .i64 c1] 41) a0
  replace a1 := Lib.cell?_alloc_some (.cells #[.int .i64 c0, .int .i64 c1] 41) a1
  have e0 : (w3.alloc (.cells #[.int .i64 c0, .int .i64 c1] 41)).cell? ⟨w3.heap.size, 0, none⟩ = some (.int .i64 c0) := by simp
  have e1 : (w3.alloc (.cells #[.int .i64 c0, .int .i64 c1] 41)).cell? ⟨w3.heap.size, 1, none⟩ = some (.int .i64 c1) := by simp
  go_wp2_with fail
  refine (HK1.out _).mono ?_
  rintro e w4 ⟨rfl, hb⟩
  replace hb := hb.below
  replace p0 := cell_later hb p0
  replace p1 := cell_later hb p1
  replace q0 := cell_later hb q0
  replace q1 := cell_later hb q1
  replace a0 := cell_later hb a0
  replace a1 := cell_later hb a1
  replace e0 := cell_later hb e0
  replace e1 := cell_later hb e1
  have BB4 := Lib.hid ((BB3.out.alloc BB3.out.size _).trans (hb.mono (by simp; have := BB3.out.size; omega)))
  clear hb BB3
  go_wp2_with fail
  refine (HK4.out _).mono ?_
  rintro e w5 ⟨rfl, hb⟩
  replace hb := hb.below
  replace p0 := cell_later hb p0
  replace p1 := cell_later hb p1
  replace q0 := cell_later hb q0
  replace q1 := cell_later hb q1
  replace a0 := cell_later hb a0
  replace a1 := cell_later hb a1
  replace e0 := cell_later hb e0
  replace e1 := cell_later hb e1
  have BB5 := Lib.hid (BB4.out.trans (hb.mono BB4.out.size))
  clear hb BB4
  go_wp2_with fail
  refine (HK5.out _).mono ?_
  rintro e w6 ⟨rfl, hb⟩
  replace hb := hb.below
  replace p0 := cell_later hb p0
  replace p1 := cell_later hb p1
  replace q0 := cell_later hb q0
  replace q1 := cell_later hb q1
  replace a0 := cell_later hb a0
  replace a1 := cell_later hb a1
  replace e0 := cell_later hb e0
  replace e1 := cell_later hb e1
  have BB6 := Lib.hid (BB5.out.trans (hb.mono BB5.out.size))
  clear hb BB5
  go_wp2_with fail
  go_ret
  exact ⟨rfl, BB6.out⟩

set_option maxHeartbeats 2000000 in
set_option maxRecDepth 100000 in
theorem common_fff (f u f' u' d c0 c1 : Int) (w : World) (hL : Laid w)
    (KC : ∀ W, Calls Tryd.prog 21 #[.agg #[.int .i64 f, .int .i64 u], .agg #[.int .i64 f', .int .i64 u']] W fun e w' => e = .returned (.tuple #[.agg #[.int .i64 c0, .int .i64 c1], .bool false]) ∧ Below W.heap.size W w')
    (KD : ∀ W, Calls Tryd.prog 21 #[.agg #[.int .i64 f', .int .i64 u'], .agg #[.int .i64 f, .int .i64 u]] W fun e w' => e = .returned (.tuple #[.agg #[.int .i64 c0, .int .i64 c1], .bool false]) ∧ Below W.heap.size W w')
    (h0 : (c0 == 0) = true) (h1 : (c1 == 0) = true)
    (K1 : ∀ W, Calls Tryd.prog 19 #[.agg #[.int .i64 f, .int .i64 u], .int .i64 d] W fun e w' => e = .returned (.bool false) ∧ Gr W w')
    (K4 : ∀ W, Calls Tryd.prog 19 #[.agg #[.int .i64 f, .int .i64 u], .int .i64 (max f f')] W fun e w' => e = .returned (.bool false) ∧ Gr W w')
    : Calls Tryd.prog 9 #[.agg #[.int .i64 f, .int .i64 u], .agg #[.int .i64 f', .int .i64 u'], .int .i64 d] w (Yes w) := by
  have HKC := Lib.hid KC
  have HKD := Lib.hid KD
  have HK1 := Lib.hid K1
  have HK4 := Lib.hid K4
  clear KC KD K1 K4
  have nq := neq41
  have HL := Lib.hid hL
  clear hL
  have gA : Gr w ((w.alloc (.cells #[.int .i64 f, .int .i64 u] 41)).alloc (.cells #[.int .i64 f', .int .i64 u'] 41)) := (Gr.one _ _).alloc _
  have p0 : ((w.alloc (.cells #[.int .i64 f, .int .i64 u] 41)).alloc (.cells #[.int .i64 f', .int .i64 u'] 41)).cell? ⟨w.heap.size, 0, none⟩ = some (.int .i64 f) := Lib.cell?_alloc_some _ (by simp)
  have p1 : ((w.alloc (.cells #[.int .i64 f, .int .i64 u] 41)).alloc (.cells #[.int .i64 f', .int .i64 u'] 41)).cell? ⟨w.heap.size, 1, none⟩ = some (.int .i64 u) := Lib.cell?_alloc_some _ (by simp)
  have q0 : ((w.alloc (.cells #[.int .i64 f, .int .i64 u] 41)).alloc (.cells #[.int .i64 f', .int .i64 u'] 41)).cell? ⟨w.heap.size + 1, 0, none⟩ = some (.int .i64 f') := by simp
  have q1 : ((w.alloc (.cells #[.int .i64 f, .int .i64 u] 41)).alloc (.cells #[.int .i64 f', .int .i64 u'] 41)).cell? ⟨w.heap.size + 1, 1, none⟩ = some (.int .i64 u') := by simp
  have GA := Lib.hid gA
  clear gA
  go_enter Tryd.func9, Tryd.ntmps9
  go_wp2_with fail
  refine (head_any _ (HL.out.keep GA.out.below)).mono ?_
  rintro e w1 ⟨rfl, hb⟩
  replace p0 := cell_later hb p0
  replace p1 := cell_later hb p1
  replace q0 := cell_later hb q0
  replace q1 := cell_later hb q1
  have BB1 := Lib.hid (GA.out.below.trans (hb.mono GA.out.size))
  clear hb GA HL
  go_wp2_with fail
  refine (HKC.out _).mono ?_
  rintro e w2 ⟨rfl, hb⟩
  replace p0 := cell_later hb p0
  replace p1 := cell_later hb p1
  replace q0 := cell_later hb q0
  replace q1 := cell_later hb q1
  have BB2 := Lib.hid (BB1.out.trans (hb.mono BB1.out.size))
  clear hb BB1
  replace p0 := Lib.cell?_alloc_some (.cells #[.int .i64 c0, .int .i64 c1] 41) p0
  replace p1 := Lib.cell?_alloc_some (.cells #[.int .i64 c0, .int .i64 c1] 41) p1
  replace q0 := Lib.cell?_alloc_some (.cells #[.int .i64 c0, .int .i64 c1] 41) q0
  replace q1 := Lib.cell?_alloc_some (.cells #[.int .i64 c0, .int .i64 c1] 41) q1
  have a0 : (w2.alloc (.cells #[.int .i64 c0, .int .i64 c1] 41)).cell? ⟨w2.heap.size, 0, none⟩ = some (.int .i64 c0) := by simp
  have a1 : (w2.alloc (.cells #[.int .i64 c0, .int .i64 c1] 41)).cell? ⟨w2.heap.size, 1, none⟩ = some (.int .i64 c1) := by simp
  go_wp2_with fail
  refine (HKD.out _).mono ?_
  rintro e w3 ⟨rfl, hb⟩
  replace p0 := cell_later hb p0
  replace p1 := cell_later hb p1
  replace q0 := cell_later hb q0
  replace q1 := cell_later hb q1
  replace a0 := cell_later hb a0
  replace a1 := cell_later hb a1
  have BB3 := Lib.hid ((BB2.out.alloc BB2.out.size _).trans (hb.mono (by simp; have := BB2.out.size; omega)))
  clear hb BB2
  replace p0 := Lib.cell?_alloc_some (.cells #[.int .i64 c0, .int .i64 c1] 41) p0
  replace p1 := Lib.cell?_alloc_some (.cells #[.int .i64 c0, .int .i64 c1] 41) p1
  replace q0 := Lib.cell?_alloc_some (.cells #[.int .i64 c0, .int .i64 c1] 41) q0
  replace q1 := Lib.cell?_alloc_some (.cells #[.int .i64 c0, .int .i64 c1] 41) q1
  replace a0 := Lib.cell?_alloc_some (.cells #[.int .i64 c0, .int .i64 c1] 41) a0
  replace a1 := Lib.cell?_alloc_some (.cells #[.int .i64 c0, .int .i64 c1] 41) a1
  have e0 : (w3.alloc (.cells #[.int .i64 c0, .int .i64 c1] 41)).cell? ⟨w3.heap.size, 0, none⟩ = some (.int .i64 c0) := by simp
  have e1 : (w3.alloc (.cells #[.int .i64 c0, .int .i64 c1] 41)).cell? ⟨w3.heap.size, 1, none⟩ = some (.int .i64 c1) := by simp
  go_wp2_with fail
  refine (HK1.out _).mono ?_
  rintro e w4 ⟨rfl, hb⟩
  replace hb := hb.below
  replace p0 := cell_later hb p0
  replace p1 := cell_later hb p1
  replace q0 := cell_later hb q0
  replace q1 := cell_later hb q1
  replace a0 := cell_later hb a0
  replace a1 := cell_later hb a1
  replace e0 := cell_later hb e0
  replace e1 := cell_later hb e1
  have BB4 := Lib.hid ((BB3.out.alloc BB3.out.size _).trans (hb.mono (by simp; have := BB3.out.size; omega)))
  clear hb BB3
  go_wp2_with fail
  refine (HK4.out _).mono ?_
  rintro e w5 ⟨rfl, hb⟩
  replace hb := hb.below
  replace p0 := cell_later hb p0
  replace p1 := cell_later hb p1
  replace q0 := cell_later hb q0
  replace q1 := cell_later hb q1
  replace a0 := cell_later hb a0
  replace a1 := cell_later hb a1
  replace e0 := cell_later hb e0
  replace e1 := cell_later hb e1
  have BB5 := Lib.hid (BB4.out.trans (hb.mono BB4.out.size))
  clear hb BB4
  go_wp2_with fail
  go_ret
  exact ⟨rfl, BB5.out⟩

theorem common_walk (f u f' u' d : Int) (w : World) (hL : Laid w) : Calls Tryd.prog 9 #[.agg #[.int .i64 f, .int .i64 u], .agg #[.int .i64 f', .int .i64 u'], .int .i64 d] w (Yes w) := by
  have KC := fun W => common_any f u f' u' W
  have KD := fun W => common_any f' u' f u W
  have K1 := fun W => covers_any f u d W
  have K2 := fun W => covers_any f' u' d W
  have K4 := fun W => covers_any f u (max f f') W
  have K5 := fun W => covers_any f' u' (max f f') W
  have e1 := cm_later (f, u) (f', u')
  have e2 := cm_cov (f, u) (f', u') d
  rw [cmB_comm, cmP_comm] at KD
  dsimp only at e1
  cases hB : cmB (f, u) (f', u') with
  | true =>
    obtain ⟨hp, _, _⟩ := cmP_ok _ _ hB
    have KP := fun W => proper_any (cmP (f, u) (f', u')).1 (cmP (f, u) (f', u')).2 W
    have K3 := fun W => covers_any (cmP (f, u) (f', u')).1 (cmP (f, u) (f', u')).2 d W
    rw [hB] at KC KD e1 e2
    rw [Bool.true_and] at e2
    have hx := Bool.and_eq_true _ _ ▸ e1.symm
    have hp' : prp ((cmP (f, u) (f', u')).1, (cmP (f, u) (f', u')).2) = true := hp
    have e3 : cov ((cmP (f, u) (f', u')).1, (cmP (f, u) (f', u')).2) d = (cov (f, u) d && cov (f', u') d) := e2.symm
    rw [hp'] at KP
    rw [hx.1] at K4
    rw [hx.2] at K5
    rw [e3] at K3
    cases h1 : cov (f, u) d with
    | true =>
      rw [h1] at K1 K3
      rw [Bool.true_and] at K3
      exact common_tt f u f' u' d _ _ _ w hL KC KD KP K1 K2 K3 K4 K5
    | false =>
      rw [h1] at K1 K3
      rw [Bool.false_and] at K3
      exact common_tf f u f' u' d _ _ w hL KC KD KP K1 K3 K4 K5
  | false =>
    have hz := cmP_no _ _ hB
    rw [hB] at KC KD e1 e2
    rw [hz] at KC KD
    rw [Bool.false_and] at e2
    cases h1 : cov (f, u) d with
    | true =>
      rw [h1] at K1 e2
      rw [Bool.true_and] at e2
      rw [e2] at K2
      cases h4 : cov (f, u) (max f f') with
      | true =>
        rw [h4] at K4 e1
        rw [Bool.true_and] at e1
        rw [← e1] at K5
        exact common_ftt f u f' u' d _ _ w hL KC KD rfl rfl K1 K2 K4 K5
      | false =>
        rw [h4] at K4
        exact common_ftf f u f' u' d _ _ w hL KC KD rfl rfl K1 K2 K4
    | false =>
      rw [h1] at K1
      cases h4 : cov (f, u) (max f f') with
      | true =>
        rw [h4] at K4 e1
        rw [Bool.true_and] at e1
        rw [← e1] at K5
        exact common_fft f u f' u' d _ _ w hL KC KD rfl rfl K1 K4 K5
      | false =>
        rw [h4] at K4
        exact common_fff f u f' u' d _ _ w hL KC KD rfl rfl K1 K4
end Go.Proofs.YtjebbmnjegndkaaDoor
