/- The walk of the law DatePeriodsAsReference. Under the condition that the tables lie in memory as the program lays them. -/
import Derived.Test.YtjebbmnjegndkaaDoorX
import Derived.Test.YtjebbmnjegndkaaDoorY
import Derived.Test.YtjebbmnjegndkaaDoorM
namespace Go.Proofs.YtjebbmnjegndkaaDoor
open Go.RowKit

set_option maxHeartbeats 1000000 in
set_option maxRecDepth 100000 in
theorem periods_long (f u f' u' d : Int) (A : Option Addr) (n c : Nat) (w : World) (hL : Laid w) (h : 30 < n) : Calls Tryd.prog 8 #[.agg #[.int .i64 f, .int .i64 u], .agg #[.int .i64 f', .int .i64 u'], .int .i64 d, .slice A n c] w (Yes w) := by
  have hn : (30 : Int) < (n : Int) := by omega
  have HL := Lib.hid hL
  clear hL
  have gA : Gr w ((w.alloc (.cells #[.int .i64 f, .int .i64 u] 41)).alloc (.cells #[.int .i64 f', .int .i64 u'] 41)) := (Gr.one _ _).alloc _
  have p0 : ((w.alloc (.cells #[.int .i64 f, .int .i64 u] 41)).alloc (.cells #[.int .i64 f', .int .i64 u'] 41)).cell? ⟨w.heap.size, 0, none⟩ = some (.int .i64 f) := Lib.cell?_alloc_some _ (by simp)
  have p1 : ((w.alloc (.cells #[.int .i64 f, .int .i64 u] 41)).alloc (.cells #[.int .i64 f', .int .i64 u'] 41)).cell? ⟨w.heap.size, 1, none⟩ = some (.int .i64 u) := Lib.cell?_alloc_some _ (by simp)
  have q0 : ((w.alloc (.cells #[.int .i64 f, .int .i64 u] 41)).alloc (.cells #[.int .i64 f', .int .i64 u'] 41)).cell? ⟨w.heap.size + 1, 0, none⟩ = some (.int .i64 f') := by simp
  have q1 : ((w.alloc (.cells #[.int .i64 f, .int .i64 u] 41)).alloc (.cells #[.int .i64 f', .int .i64 u'] 41)).cell? ⟨w.heap.size + 1, 1, none⟩ = some (.int .i64 u') := by simp
  have GA := Lib.hid gA
  clear gA
  go_enter Tryd.func8, Tryd.ntmps8
  go_wp2_with fail
  refine (head_any _ (HL.out.keep GA.out.below)).mono ?_
  rintro e w1 ⟨rfl, hb⟩
  replace p0 := cell_later hb p0
  replace p1 := cell_later hb p1
  replace q0 := cell_later hb q0
  replace q1 := cell_later hb q1
  have BB1 := Lib.hid (GA.out.below.trans (hb.mono GA.out.size))
  clear hb GA HL
  go_wp2_with fail
  go_ret
  exact ⟨rfl, BB1.out⟩

set_option maxHeartbeats 16000000 in
set_option maxRecDepth 100000 in
theorem periods_good (f u f' u' d : Int) (A : Option Addr) (c : Nat) (l : List (Int × Int)) (w : World) (hL : Laid w) (hR : Rd w A l) (h : l.length ≤ 30) (hp : ∀ p ∈ l, prp p = true) : Calls Tryd.prog 8 #[.agg #[.int .i64 f, .int .i64 u], .agg #[.int .i64 f', .int .i64 u'], .int .i64 d, .slice A l.length c] w (Yes w) := by
  have hn : decide ((30 : Int) < (l.length : Int)) = false := by simp; omega
  have mixed : Tryd.prog.follows .mixedOrders = true := Tryd.sortP.mixed
  have eq4 := eq41
  have HL := Lib.hid hL
  have HR := Lib.hid hR
  have HP := Lib.hid hp
  clear hL hR hp
  have HC := Lib.hid (fun W => common_any f u f' u' W)
  have HD := Lib.hid (fun W => rcommon_any f u f' u' W)
  have K1 := Lib.hid (fun W => proper_any f u W)
  have K2 := Lib.hid (fun W => rproper_any f u W)
  have K3 := Lib.hid (fun W => covers_any f u d W)
  have K4 := Lib.hid (fun W => rcovers_any f u d W)
  generalize prp (f, u) = bp at *
  generalize cov (f, u) d = bc at *
  generalize (cmP (f, u) (f', u')).1 = c0 at *
  generalize (cmP (f, u) (f', u')).2 = c1 at *
  generalize cmB (f, u) (f', u') = B at *
  have gA : Gr w ((w.alloc (.cells #[.int .i64 f, .int .i64 u] 41)).alloc (.cells #[.int .i64 f', .int .i64 u'] 41)) := (Gr.one _ _).alloc _
  have p0 : ((w.alloc (.cells #[.int .i64 f, .int .i64 u] 41)).alloc (.cells #[.int .i64 f', .int .i64 u'] 41)).cell? ⟨w.heap.size, 0, none⟩ = some (.int .i64 f) := Lib.cell?_alloc_some _ (by simp)
  have p1 : ((w.alloc (.cells #[.int .i64 f, .int .i64 u] 41)).alloc (.cells #[.int .i64 f', .int .i64 u'] 41)).cell? ⟨w.heap.size, 1, none⟩ = some (.int .i64 u) := Lib.cell?_alloc_some _ (by simp)
  have q0 : ((w.alloc (.cells #[.int .i64 f, .int .i64 u] 41)).alloc (.cells #[.int .i64 f', .int .i64 u'] 41)).cell? ⟨w.heap.size + 1, 0, none⟩ = some (.int .i64 f') := by simp
  have q1 : ((w.alloc (.cells #[.int .i64 f, .int .i64 u] 41)).alloc (.cells #[.int .i64 f', .int .i64 u'] 41)).cell? ⟨w.heap.size + 1, 1, none⟩ = some (.int .i64 u') := by simp
  have GA := Lib.hid gA
  clear gA
  go_enter Tryd.func8, Tryd.ntmps8
  go_wp2_with fail
  refine (head_any _ (HL.out.keep GA.out.below)).mono ?_
  rintro e w1 ⟨rfl, hb⟩
  replace p0 := cell_later hb p0
  replace p1 := cell_later hb p1
  replace q0 := cell_later hb q0
  replace q1 := cell_later hb q1
  have BB1 := Lib.hid (GA.out.below.trans (hb.mono GA.out.size))
  clear hb GA HL
  go_wp2_with fail
  refine (HC.out _).mono ?_
  rintro e w2 ⟨rfl, hb⟩
  replace p0 := cell_later hb p0
  replace p1 := cell_later hb p1
  replace q0 := cell_later hb q0
  replace q1 := cell_later hb q1
  have BB2 := Lib.hid (BB1.out.trans (hb.mono BB1.out.size))
  clear hb BB1
  replace p0 := Lib.cell?_alloc_some (.cells #[.int .i64 c0, .int .i64 c1] 41) p0
  replace p1 := Lib.cell?_alloc_some (.cells #[.int .i64 c0, .int .i64 c1] 41) p1
  replace q0 := Lib.cell?_alloc_some (.cells #[.int .i64 c0, .int .i64 c1] 41) q0
  replace q1 := Lib.cell?_alloc_some (.cells #[.int .i64 c0, .int .i64 c1] 41) q1
  have a0 : (w2.alloc (.cells #[.int .i64 c0, .int .i64 c1] 41)).cell? ⟨w2.heap.size, 0, none⟩ = some (.int .i64 c0) := by simp
  have a1 : (w2.alloc (.cells #[.int .i64 c0, .int .i64 c1] 41)).cell? ⟨w2.heap.size, 1, none⟩ = some (.int .i64 c1) := by simp
  go_wp2_with fail
  refine (HD.out _).mono ?_
  rintro e w3 ⟨rfl, hb⟩
  replace p0 := cell_later hb p0
  replace p1 := cell_later hb p1
  replace q0 := cell_later hb q0
  replace q1 := cell_later hb q1
  replace a0 := cell_later hb a0
  replace a1 := cell_later hb a1
  have BB3 := Lib.hid ((BB2.out.alloc BB2.out.size _).trans (hb.mono (by simp; have := BB2.out.size; omega)))
  clear hb BB2
  replace p0 := Lib.cell?_alloc_some (.cells #[.int .i64 c0, .int .i64 c1] 41) p0
  replace p1 := Lib.cell?_alloc_some (.cells #[.int .i64 c0, .int .i64 c1] 41) p1
  replace q0 := Lib.cell?_alloc_some (.cells #[.int .i64 c0, .int .i64 c1] 41) q0
  replace q1 := Lib.cell?_alloc_some (.cells #[.int .i64 c0, .int .i64 c1] 41) q1
  replace a0 := Lib.cell?_alloc_some (.cells #[.int .i64 c0, .int .i64 c1] 41) a0
  replace a1 := Lib.cell?_alloc_some (.cells #[.int .i64 c0, .int .i64 c1] 41) a1
  have b0 : (w3.alloc (.cells #[.int .i64 c0, .int .i64 c1] 41)).cell? ⟨w3.heap.size, 0, none⟩ = some (.int .i64 c0) := by simp
  have b1 : (w3.alloc (.cells #[.int .i64 c0, .int .i64 c1] 41)).cell? ⟨w3.heap.size, 1, none⟩ = some (.int .i64 c1) := by simp
  have BB3a := Lib.hid (BB3.out.alloc BB3.out.size (.cells #[.int .i64 c0, .int .i64 c1] 41))
  clear BB3
  go_wp2_with fail
  refine (union_any A c l _ (by omega) HP.out (HR.out.keep BB3a.out)).mono ?_
  rintro e w4 ⟨A4, c4, v, rfl, hU, hR4, hb⟩
  replace p0 := cell_later hb p0
  replace p1 := cell_later hb p1
  replace q0 := cell_later hb q0
  replace q1 := cell_later hb q1
  replace a0 := cell_later hb a0
  replace a1 := cell_later hb a1
  replace b0 := cell_later hb b0
  replace b1 := cell_later hb b1
  have BB4 := Lib.hid (BB3a.out.trans (hb.mono BB3a.out.size))
  clear hb BB3a
  have HU := Lib.hid hU
  have HR4 := Lib.hid hR4
  have hvl : v.length ≤ 30 := Nat.le_trans (hU.len HP.out) h
  clear hU hR4
  go_wp2_with fail
  refine (runion_any A c l _ (by omega) (HR.out.keep BB4.out)).mono ?_
  rintro e w5 hpost
  rcases hpost with ⟨_, A5, c5, v5, rfl, hU5, hR5, hb⟩ | ⟨hno, _⟩
  case inr =>
    exfalso
    obtain ⟨x, hx, hxp⟩ := List.any_eq_true.1 hno
    rw [HP.out x hx] at hxp; cases hxp
  obtain rfl := hU5.uniq HU.out
  have HRa := Lib.hid (HR4.out.keep hb)
  have HRb := Lib.hid hR5
  clear hU5 hR5 HR4
  replace p0 := cell_later hb p0
  replace p1 := cell_later hb p1
  replace q0 := cell_later hb q0
  replace q1 := cell_later hb q1
  replace a0 := cell_later hb a0
  replace a1 := cell_later hb a1
  replace b0 := cell_later hb b0
  replace b1 := cell_later hb b1
  have BB5 := Lib.hid (BB4.out.trans (hb.mono BB4.out.size))
  clear hb BB4
  have gp0 := fun n os => cell_grown (World.block_lt_of_cell? _ _ p0) p0 n os
  have gp1 := fun n os => cell_grown (World.block_lt_of_cell? _ _ p1) p1 n os
  have ga0 := fun n os => cell_grown (World.block_lt_of_cell? _ _ a0) a0 n os
  have ga1 := fun n os => cell_grown (World.block_lt_of_cell? _ _ a1) a1 n os
  have gb0 := fun n os => cell_grown (World.block_lt_of_cell? _ _ b0) b0 n os
  have gb1 := fun n os => cell_grown (World.block_lt_of_cell? _ _ b1) b1 n os
  have K5 := Lib.hid (fun W (hg : Gr w5 W) => same_yes A4 A5 c4 c5 v5 W (by omega) (HRa.out.keep hg.below) (HRb.out.keep hg.below))
  clear p0 p1 q0 q1 a0 a1 b0 b1
  go_wp2_with fail
  refine wp_region_quiet_grown (by assumption) (by kernel_rfl) ?_
  repeat (first | go_big_quiet_skip | quiet_step ((first | (go_at_call 18; exact Calls.grown_of (K1.out _)) | (go_at_call 24; exact Calls.grown_of (K2.out _)) | (go_at_call 19; exact Calls.grown_of (K3.out _)) | (go_at_call 25; exact Calls.grown_of (K4.out _)) | (go_at_call 20; exact Calls.grown_of (K5.out _ ⟨_, _, rfl⟩)))))
  refine wpQuiet_nil ?_
  intro _ hw'
  obtain ⟨⟨nq, osq⟩, hw''⟩ := hw'
  subst hw''
  dsimp only
  have BB6 : Hid (Below w.heap.size w (Sort.grow (w5.drewN nq) osq)) := BB5.out.trans ((Gr.below ⟨nq, osq, rfl⟩).mono BB5.out.size)
  go_wp2_with fail
  go_ret
  exact ⟨rfl, BB6.out⟩

set_option maxHeartbeats 16000000 in
set_option maxRecDepth 100000 in
theorem periods_bad (f u f' u' d : Int) (A : Option Addr) (c : Nat) (l : List (Int × Int)) (w : World) (hL : Laid w) (hR : Rd w A l) (h : l.length ≤ 30) (hp : (l.any fun x => !prp x) = true) : Calls Tryd.prog 8 #[.agg #[.int .i64 f, .int .i64 u], .agg #[.int .i64 f', .int .i64 u'], .int .i64 d, .slice A l.length c] w (Yes w) := by
  have hn : decide ((30 : Int) < (l.length : Int)) = false := by simp; omega
  have mixed : Tryd.prog.follows .mixedOrders = true := Tryd.sortP.mixed
  have eq4 := eq41
  have HL := Lib.hid hL
  have HR := Lib.hid hR
  have HP := Lib.hid hp
  clear hL hR hp
  have HC := Lib.hid (fun W => common_any f u f' u' W)
  have HD := Lib.hid (fun W => rcommon_any f u f' u' W)
  have K1 := Lib.hid (fun W => proper_any f u W)
  have K2 := Lib.hid (fun W => rproper_any f u W)
  have K3 := Lib.hid (fun W => covers_any f u d W)
  have K4 := Lib.hid (fun W => rcovers_any f u d W)
  generalize prp (f, u) = bp at *
  generalize cov (f, u) d = bc at *
  generalize (cmP (f, u) (f', u')).1 = c0 at *
  generalize (cmP (f, u) (f', u')).2 = c1 at *
  generalize cmB (f, u) (f', u') = B at *
  have gA : Gr w ((w.alloc (.cells #[.int .i64 f, .int .i64 u] 41)).alloc (.cells #[.int .i64 f', .int .i64 u'] 41)) := (Gr.one _ _).alloc _
  have p0 : ((w.alloc (.cells #[.int .i64 f, .int .i64 u] 41)).alloc (.cells #[.int .i64 f', .int .i64 u'] 41)).cell? ⟨w.heap.size, 0, none⟩ = some (.int .i64 f) := Lib.cell?_alloc_some _ (by simp)
  have p1 : ((w.alloc (.cells #[.int .i64 f, .int .i64 u] 41)).alloc (.cells #[.int .i64 f', .int .i64 u'] 41)).cell? ⟨w.heap.size, 1, none⟩ = some (.int .i64 u) := Lib.cell?_alloc_some _ (by simp)
  have q0 : ((w.alloc (.cells #[.int .i64 f, .int .i64 u] 41)).alloc (.cells #[.int .i64 f', .int .i64 u'] 41)).cell? ⟨w.heap.size + 1, 0, none⟩ = some (.int .i64 f') := by simp
  have q1 : ((w.alloc (.cells #[.int .i64 f, .int .i64 u] 41)).alloc (.cells #[.int .i64 f', .int .i64 u'] 41)).cell? ⟨w.heap.size + 1, 1, none⟩ = some (.int .i64 u') := by simp
  have GA := Lib.hid gA
  clear gA
  go_enter Tryd.func8, Tryd.ntmps8
  go_wp2_with fail
  refine (head_any _ (HL.out.keep GA.out.below)).mono ?_
  rintro e w1 ⟨rfl, hb⟩
  replace p0 := cell_later hb p0
  replace p1 := cell_later hb p1
  replace q0 := cell_later hb q0
  replace q1 := cell_later hb q1
  have BB1 := Lib.hid (GA.out.below.trans (hb.mono GA.out.size))
  clear hb GA HL
  go_wp2_with fail
  refine (HC.out _).mono ?_
  rintro e w2 ⟨rfl, hb⟩
  replace p0 := cell_later hb p0
  replace p1 := cell_later hb p1
  replace q0 := cell_later hb q0
  replace q1 := cell_later hb q1
  have BB2 := Lib.hid (BB1.out.trans (hb.mono BB1.out.size))
  clear hb BB1
  replace p0 := Lib.cell?_alloc_some (.cells #[.int .i64 c0, .int .i64 c1] 41) p0
  replace p1 := Lib.cell?_alloc_some (.cells #[.int .i64 c0, .int .i64 c1] 41) p1
  replace q0 := Lib.cell?_alloc_some (.cells #[.int .i64 c0, .int .i64 c1] 41) q0
  replace q1 := Lib.cell?_alloc_some (.cells #[.int .i64 c0, .int .i64 c1] 41) q1
  have a0 : (w2.alloc (.cells #[.int .i64 c0, .int .i64 c1] 41)).cell? ⟨w2.heap.size, 0, none⟩ = some (.int .i64 c0) := by simp
  have a1 : (w2.alloc (.cells #[.int .i64 c0, .int .i64 c1] 41)).cell? ⟨w2.heap.size, 1, none⟩ = some (.int .i64 c1) := by simp
  go_wp2_with fail
  refine (HD.out _).mono ?_
  rintro e w3 ⟨rfl, hb⟩
  replace p0 := cell_later hb p0
  replace p1 := cell_later hb p1
  replace q0 := cell_later hb q0
  replace q1 := cell_later hb q1
  replace a0 := cell_later hb a0
  replace a1 := cell_later hb a1
  have BB3 := Lib.hid ((BB2.out.alloc BB2.out.size _).trans (hb.mono (by simp; have := BB2.out.size; omega)))
  clear hb BB2
  replace p0 := Lib.cell?_alloc_some (.cells #[.int .i64 c0, .int .i64 c1] 41) p0
  replace p1 := Lib.cell?_alloc_some (.cells #[.int .i64 c0, .int .i64 c1] 41) p1
  replace q0 := Lib.cell?_alloc_some (.cells #[.int .i64 c0, .int .i64 c1] 41) q0
  replace q1 := Lib.cell?_alloc_some (.cells #[.int .i64 c0, .int .i64 c1] 41) q1
  replace a0 := Lib.cell?_alloc_some (.cells #[.int .i64 c0, .int .i64 c1] 41) a0
  replace a1 := Lib.cell?_alloc_some (.cells #[.int .i64 c0, .int .i64 c1] 41) a1
  have b0 : (w3.alloc (.cells #[.int .i64 c0, .int .i64 c1] 41)).cell? ⟨w3.heap.size, 0, none⟩ = some (.int .i64 c0) := by simp
  have b1 : (w3.alloc (.cells #[.int .i64 c0, .int .i64 c1] 41)).cell? ⟨w3.heap.size, 1, none⟩ = some (.int .i64 c1) := by simp
  have BB3a := Lib.hid (BB3.out.alloc BB3.out.size (.cells #[.int .i64 c0, .int .i64 c1] 41))
  clear BB3
  go_wp2_with fail
  refine (union_bad' A c l _ (by omega) HP.out (HR.out.keep BB3a.out)).mono ?_
  rintro e w4 ⟨rfl, hb⟩
  replace p0 := cell_later hb p0
  replace p1 := cell_later hb p1
  replace q0 := cell_later hb q0
  replace q1 := cell_later hb q1
  replace a0 := cell_later hb a0
  replace a1 := cell_later hb a1
  replace b0 := cell_later hb b0
  replace b1 := cell_later hb b1
  have BB4 := Lib.hid (BB3a.out.trans (hb.mono BB3a.out.size))
  clear hb BB3a
  go_wp2_with fail
  refine (runion_any A c l _ (by omega) (HR.out.keep BB4.out)).mono ?_
  rintro e w5 hpost
  rcases hpost with ⟨hno, _⟩ | ⟨_, rfl, hb⟩
  case inl =>
    exfalso
    obtain ⟨x, hx, hxp⟩ := List.any_eq_true.1 HP.out
    rw [hno x hx] at hxp; cases hxp
  replace p0 := cell_later hb p0
  replace p1 := cell_later hb p1
  replace q0 := cell_later hb q0
  replace q1 := cell_later hb q1
  replace a0 := cell_later hb a0
  replace a1 := cell_later hb a1
  replace b0 := cell_later hb b0
  replace b1 := cell_later hb b1
  have BB5 := Lib.hid (BB4.out.trans (hb.mono BB4.out.size))
  clear hb BB4
  have gp0 := fun n os => cell_grown (World.block_lt_of_cell? _ _ p0) p0 n os
  have gp1 := fun n os => cell_grown (World.block_lt_of_cell? _ _ p1) p1 n os
  have ga0 := fun n os => cell_grown (World.block_lt_of_cell? _ _ a0) a0 n os
  have ga1 := fun n os => cell_grown (World.block_lt_of_cell? _ _ a1) a1 n os
  have gb0 := fun n os => cell_grown (World.block_lt_of_cell? _ _ b0) b0 n os
  have gb1 := fun n os => cell_grown (World.block_lt_of_cell? _ _ b1) b1 n os
  have K5 := Lib.hid (fun (W : World) => same_yes none none 0 0 [] W (by decide) (Or.inl rfl) (Or.inl rfl))
  clear p0 p1 q0 q1 a0 a1 b0 b1
  go_wp2_with fail
  refine wp_region_quiet_grown (by assumption) (by kernel_rfl) ?_
  repeat (first | go_big_quiet_skip | quiet_step ((first | (go_at_call 18; exact Calls.grown_of (K1.out _)) | (go_at_call 24; exact Calls.grown_of (K2.out _)) | (go_at_call 19; exact Calls.grown_of (K3.out _)) | (go_at_call 25; exact Calls.grown_of (K4.out _)) | (go_at_call 20; exact Calls.grown_of (K5.out _)))))
  refine wpQuiet_nil ?_
  intro _ hw'
  obtain ⟨⟨nq, osq⟩, hw''⟩ := hw'
  subst hw''
  dsimp only
  have BB6 : Hid (Below w.heap.size w (Sort.grow (w5.drewN nq) osq)) := BB5.out.trans ((Gr.below ⟨nq, osq, rfl⟩).mono BB5.out.size)
  go_wp2_with fail
  go_ret
  exact ⟨rfl, BB6.out⟩

theorem periods_walk (f u f' u' d : Int) (A : Option Addr) (c : Nat) (l : List (Int × Int)) (w : World) (hL : Laid w) (hR : Rd w A l) : Calls Tryd.prog 8 #[.agg #[.int .i64 f, .int .i64 u], .agg #[.int .i64 f', .int .i64 u'], .int .i64 d, .slice A l.length c] w (Yes w) := by
  by_cases h : l.length ≤ 30
  · cases hp : (l.any fun x => !prp x) with
    | true => exact periods_bad f u f' u' d A c l w hL hR h hp
    | false =>
      refine periods_good f u f' u' d A c l w hL hR h (fun p hpm => ?_)
      have := List.any_eq_false.1 hp p hpm
      simpa using this
  · exact periods_long f u f' u' d A l.length c w hL (by omega)
end Go.Proofs.YtjebbmnjegndkaaDoor
