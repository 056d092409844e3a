/- The contract of head, the chapter's examples. Under the condition that the tables lie in memory as the program lays them. -/
import Derived.Test.YtjebbmnjegndkaaGreatDoorI
import Derived.Test.YtjebbmnjegndkaaGreatDoorT
namespace Go.Proofs.YtjebbmnjegndkaaGreatDoor
open Go.RowKit

theorem mk_at {y m d v e : Int} (hV : mkV y m d = v) (hE : mkE y m d = e) (w : World) (hT : Tab w) :
    Calls Tryz.prog 5 #[.int .i64 y, .int .i64 m, .int .i64 d] w fun r w' => r = .returned (.tuple #[.int .i64 v, .int .i64 e]) ∧ w = w' := by
  have := make_any y m d w hT
  rwa [hV, hE] at this
theorem sp_at {n y m d : Int} (h0 : 0 ≤ n) (h1 : n ≤ 100000) (hY : spY n = y) (hM : spM n = m) (hD : spD n = d) (w : World) :
    Calls Tryz.prog 7 #[.int .i64 n] w fun r w' => r = .returned (.tuple #[.int .i64 y, .int .i64 m, .int .i64 d, .int .i64 0]) ∧ w = w' := by
  have := split_yes n w h0 h1
  rwa [hY, hM, hD] at this
theorem mo_at {n a v e : Int} (h0 : 0 ≤ n) (h1 : n ≤ 100000) (hV : moV n a = v) (hE : moE n a = e) (w : World) (hT : Tab w) :
    Calls Tryz.prog 11 #[.int .i64 n, .int .i64 a] w fun r w' => r = .returned (.tuple #[.int .i64 v, .int .i64 e]) ∧ w = w' := by
  have := months_yes n a w hT h0 h1
  rwa [hV, hE] at this
theorem tx_zero (w : World) (hL : Laid w) : Calls Tryz.prog 13 #[.int .i64 0] w fun r w' => r = .returned (.tuple #[.string ⟨#[49, 56, 48, 48, 45, 48, 49, 45, 48, 49]⟩, .int .i64 0]) ∧ Below w.heap.size w w' := by
  have := text_yes 0 w hL (by decide) (by decide)
  rwa [show txt 0 = [49, 56, 48, 48, 45, 48, 49, 45, 48, 49] by decide +kernel] at this
theorem un_head : UnOf [(5, 9), (9, 12), (1, 3)] [(1, 3), (5, 12)] := by
  refine ⟨(show RC [(5, 12), (1, 3)] from ⟨by decide, by decide, (show prp (1, 3) = true by decide)⟩), fun d => ?_⟩
  rw [Bool.eq_iff_iff, cv_iff, cv_iff]
  simp only [List.mem_cons, List.not_mem_nil, or_false, exists_eq_or_imp, exists_eq_left]
  rw [cov_iff (1, 3) (by decide), cov_iff (5, 12) (by decide), cov_iff (5, 9) (by decide), cov_iff (9, 12) (by decide)]
  have e1 : en (1, 3) = 3 := rfl
  have e2 : en (5, 12) = 12 := rfl
  have e3 : en (5, 9) = 9 := rfl
  have e4 : en (9, 12) = 12 := rfl
  rw [e1, e2, e3, e4]
  dsimp only
  omega

set_option maxHeartbeats 4000000 in
set_option maxRecDepth 100000 in
theorem head_any (w : World) (hL : Laid w) : Calls Tryz.prog 4 #[] w fun e w' => e = .returned (.bool true) ∧ Below w.heap.size w w' := by
  have HL := Lib.hid hL
  clear hL
  go_enter Tryz.func4, Tryz.ntmps4
  go_wp2_with fail
  refine (mk_at (v := 73048) (e := 0) (by decide +kernel) (by decide +kernel) _ HL.out.1).mono ?_
  rintro e w' ⟨rfl, rfl⟩
  go_wp2_with fail
  refine (week_yes _ _ (by decide) (by decide)).mono ?_
  rintro e w' ⟨rfl, rfl⟩
  go_wp2_with fail
  refine (sp_at (y := 2000) (m := 2) (d := 29) (by decide) (by decide) (by decide +kernel) (by decide +kernel) (by decide +kernel) _).mono ?_
  rintro e w' ⟨rfl, rfl⟩
  go_wp2_with fail
  refine (mo_at (v := 73107) (e := 0) (by decide) (by decide) (by decide +kernel) (by decide +kernel) _ HL.out.1).mono ?_
  rintro e w' ⟨rfl, rfl⟩
  go_wp2_with fail
  refine (mo_at (v := 73047) (e := 0) (by decide) (by decide) (by decide +kernel) (by decide +kernel) _ HL.out.1).mono ?_
  rintro e w' ⟨rfl, rfl⟩
  go_wp2_with fail
  refine (mk_at (v := 0) (e := 1) (by decide +kernel) (by decide +kernel) _ HL.out.1).mono ?_
  rintro e w' ⟨rfl, rfl⟩
  go_wp2_with fail
  refine (mk_at (v := 0) (e := 9) (by decide +kernel) (by decide +kernel) _ HL.out.1).mono ?_
  rintro e w' ⟨rfl, rfl⟩
  go_wp2_with fail
  refine (mk_at (v := 100000) (e := 0) (by decide +kernel) (by decide +kernel) _ HL.out.1).mono ?_
  rintro e w' ⟨rfl, rfl⟩
  go_wp2_with fail
  refine (tx_zero _ HL.out).mono ?_
  rintro e w1 ⟨rfl, hb1⟩
  have B1 := Lib.hid hb1
  clear hb1
  go_wp2_with fail
  refine (union_any (some ⟨w1.heap.size, 0, none⟩) 3 [(5, 9), (9, 12), (1, 3)] _ (by decide) (by decide) (Or.inr ⟨w1.heap.size, 0, rfl, by simp, ?_⟩)).mono ?_
  · intro j hj
    match j, hj with
    | 0, _ => exact ⟨by simp, by simp⟩
    | 1, _ => exact ⟨by simp, by simp⟩
    | 2, _ => exact ⟨by simp, by simp⟩
  rintro e w2 ⟨A, c, u, rfl, hU, hR, hb2⟩
  obtain rfl := hU.uniq un_head
  have HR := Lib.hid hR
  have B2 := Lib.hid hb2
  clear hU hR hb2
  go_wp2_with fail
  refine (same_yes A (some ⟨w2.heap.size, 0, none⟩) c 2 [(1, 3), (5, 12)] _ (by decide) (HR.out.keep ((Below.refl _ _).alloc (Nat.le_refl _) _)) (Or.inr ⟨w2.heap.size, 0, rfl, by simp, ?_⟩)).mono ?_
  · intro j hj
    match j, hj with
    | 0, _ => exact ⟨by simp, by simp⟩
    | 1, _ => exact ⟨by simp, by simp⟩
  rintro e w3 ⟨rfl, hg3⟩
  have B3 := Lib.hid hg3.below
  clear hg3
  go_wp2_with fail
  go_ret
  refine ⟨rfl, ?_⟩
  have z1 := B1.out.size
  have z2 := B2.out.size
  simp at z2
  exact ((B1.out.alloc z1 _).trans (B2.out.mono (by simp; omega))).trans (((Below.refl _ _).alloc (by omega) _).trans (B3.out.mono (by simp; omega)))
end Go.Proofs.YtjebbmnjegndkaaGreatDoor
