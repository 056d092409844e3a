/- The contract of the reference's Common. Under no condition. -/
import Derived.Test.YtjebbmnjegndkaaDoorP
import Derived.Test.YtjebbmnjegndkaaDoorR
namespace Go.Proofs.YtjebbmnjegndkaaDoor
open Go.RowKit

set_option maxHeartbeats 2000000 in
set_option maxRecDepth 100000 in
theorem rc_f (f u f' u' : Int) (w : World)
    (K1 : ∀ W, Calls Tryd.prog 24 #[.agg #[.int .i64 f, .int .i64 u]] W fun e w' => e = .returned (.bool false) ∧ Gr W w')
    : Calls Tryd.prog 22 #[.agg #[.int .i64 f, .int .i64 u], .agg #[.int .i64 f', .int .i64 u']] w fun e w' => e = .returned (.tuple #[.agg #[.int .i64 0, .int .i64 0], .bool false]) ∧ Below w.heap.size w w' := by
  have HK1 := Lib.hid K1
  clear K1
  have p0 : (((w.alloc (.cells #[.int .i64 f, .int .i64 u] 41)).alloc (.cells #[.int .i64 f', .int .i64 u'] 41)).alloc (.cells #[.int .i64 0, .int .i64 0] 41)).cell? ⟨w.heap.size, 0, none⟩ = some (.int .i64 f) := Lib.cell?_alloc_some _ (Lib.cell?_alloc_some _ (by simp))
  have p1 : (((w.alloc (.cells #[.int .i64 f, .int .i64 u] 41)).alloc (.cells #[.int .i64 f', .int .i64 u'] 41)).alloc (.cells #[.int .i64 0, .int .i64 0] 41)).cell? ⟨w.heap.size, 1, none⟩ = some (.int .i64 u) := Lib.cell?_alloc_some _ (Lib.cell?_alloc_some _ (by simp))
  have q0 : (((w.alloc (.cells #[.int .i64 f, .int .i64 u] 41)).alloc (.cells #[.int .i64 f', .int .i64 u'] 41)).alloc (.cells #[.int .i64 0, .int .i64 0] 41)).cell? ⟨w.heap.size + 1, 0, none⟩ = some (.int .i64 f') := Lib.cell?_alloc_some _ (by simp)
  have q1 : (((w.alloc (.cells #[.int .i64 f, .int .i64 u] 41)).alloc (.cells #[.int .i64 f', .int .i64 u'] 41)).alloc (.cells #[.int .i64 0, .int .i64 0] 41)).cell? ⟨w.heap.size + 1, 1, none⟩ = some (.int .i64 u') := Lib.cell?_alloc_some _ (by simp)
  have z0 : (((w.alloc (.cells #[.int .i64 f, .int .i64 u] 41)).alloc (.cells #[.int .i64 f', .int .i64 u'] 41)).alloc (.cells #[.int .i64 0, .int .i64 0] 41)).cell? ⟨w.heap.size + 1 + 1, 0, none⟩ = some (.int .i64 0) := by rw [World.cell?_alloc_at _ _ _ _ (by simp)]; rfl
  have z1 : (((w.alloc (.cells #[.int .i64 f, .int .i64 u] 41)).alloc (.cells #[.int .i64 f', .int .i64 u'] 41)).alloc (.cells #[.int .i64 0, .int .i64 0] 41)).cell? ⟨w.heap.size + 1 + 1, 1, none⟩ = some (.int .i64 0) := by rw [World.cell?_alloc_at _ _ _ _ (by simp)]; rfl
  have zf0 : (((w.alloc (.cells #[.int .i64 f, .int .i64 u] 41)).alloc (.cells #[.int .i64 f', .int .i64 u'] 41)).alloc (.cells #[.int .i64 0, .int .i64 0] 41)).frozen? ⟨w.heap.size + 1 + 1, 0, none⟩ = false := World.frozen?_alloc_at _ _ _ _ (by simp)
  have zf1 : (((w.alloc (.cells #[.int .i64 f, .int .i64 u] 41)).alloc (.cells #[.int .i64 f', .int .i64 u'] 41)).alloc (.cells #[.int .i64 0, .int .i64 0] 41)).frozen? ⟨w.heap.size + 1 + 1, 1, none⟩ = false := World.frozen?_alloc_at _ _ _ _ (by simp)
  have hs0 : (((w.alloc (.cells #[.int .i64 f, .int .i64 u] 41)).alloc (.cells #[.int .i64 f', .int .i64 u'] 41)).alloc (.cells #[.int .i64 0, .int .i64 0] 41)).heap.size = w.heap.size + 1 + 1 + 1 := by simp
  have BB0 : Hid (Below w.heap.size w (((w.alloc (.cells #[.int .i64 f, .int .i64 u] 41)).alloc (.cells #[.int .i64 f', .int .i64 u'] 41)).alloc (.cells #[.int .i64 0, .int .i64 0] 41))) := (((Gr.one w _).alloc _).alloc _).below
  have HS0 := Lib.hid hs0
  clear hs0
  go_enter Tryd.func22, Tryd.ntmps22
  go_wp2_with fail
  refine (HK1.out _).mono ?_
  rintro e w1 ⟨rfl, hg⟩
  replace p0 := cell_later hg.below p0
  replace p1 := cell_later hg.below p1
  replace q0 := cell_later hg.below q0
  replace q1 := cell_later hg.below q1
  replace z0 := cell_later hg.below z0
  replace z1 := cell_later hg.below z1
  have hlt0 : w.heap.size + 1 + 1 < (((w.alloc (.cells #[.int .i64 f, .int .i64 u] 41)).alloc (.cells #[.int .i64 f', .int .i64 u'] 41)).alloc (.cells #[.int .i64 0, .int .i64 0] 41)).heap.size := by rw [HS0.out]; omega
  replace zf0 := hg.frozen hlt0 zf0
  replace zf1 := hg.frozen hlt0 zf1
  have hlt1 : w.heap.size + 1 + 1 < w1.heap.size := Nat.lt_of_lt_of_le hlt0 hg.size
  have BB1 : Hid (Below w.heap.size w w1) := BB0.out.trans (hg.below.mono BB0.out.size)
  clear hg BB0 hlt0
  go_wp2_with fail
  refine bodyPost_ret (v := .tuple #[.agg #[.int .i64 0, .int .i64 0], .bool false]) (by simp [results, Tryd.results22, go_sem, *]) rfl ⟨rfl, ?_⟩
  exact (BB1.out.setCell (by show _ ≤ w.heap.size + 1 + 1; omega) _).setCell (by show _ ≤ w.heap.size + 1 + 1; omega) _

set_option maxHeartbeats 2000000 in
set_option maxRecDepth 100000 in
theorem rc_tf (f u f' u' : Int) (w : World)
    (K1 : ∀ W, Calls Tryd.prog 24 #[.agg #[.int .i64 f, .int .i64 u]] W fun e w' => e = .returned (.bool true) ∧ Gr W w')
    (K2 : ∀ W, Calls Tryd.prog 24 #[.agg #[.int .i64 f', .int .i64 u']] W fun e w' => e = .returned (.bool false) ∧ Gr W w')
    : Calls Tryd.prog 22 #[.agg #[.int .i64 f, .int .i64 u], .agg #[.int .i64 f', .int .i64 u']] w fun e w' => e = .returned (.tuple #[.agg #[.int .i64 0, .int .i64 0], .bool false]) ∧ Below w.heap.size w w' := by
  have HK1 := Lib.hid K1
  have HK2 := Lib.hid K2
  clear K1 K2
  have p0 : (((w.alloc (.cells #[.int .i64 f, .int .i64 u] 41)).alloc (.cells #[.int .i64 f', .int .i64 u'] 41)).alloc (.cells #[.int .i64 0, .int .i64 0] 41)).cell? ⟨w.heap.size, 0, none⟩ = some (.int .i64 f) := Lib.cell?_alloc_some _ (Lib.cell?_alloc_some _ (by simp))
  have p1 : (((w.alloc (.cells #[.int .i64 f, .int .i64 u] 41)).alloc (.cells #[.int .i64 f', .int .i64 u'] 41)).alloc (.cells #[.int .i64 0, .int .i64 0] 41)).cell? ⟨w.heap.size, 1, none⟩ = some (.int .i64 u) := Lib.cell?_alloc_some _ (Lib.cell?_alloc_some _ (by simp))
  have q0 : (((w.alloc (.cells #[.int .i64 f, .int .i64 u] 41)).alloc (.cells #[.int .i64 f', .int .i64 u'] 41)).alloc (.cells #[.int .i64 0, .int .i64 0] 41)).cell? ⟨w.heap.size + 1, 0, none⟩ = some (.int .i64 f') := Lib.cell?_alloc_some _ (by simp)
  have q1 : (((w.alloc (.cells #[.int .i64 f, .int .i64 u] 41)).alloc (.cells #[.int .i64 f', .int .i64 u'] 41)).alloc (.cells #[.int .i64 0, .int .i64 0] 41)).cell? ⟨w.heap.size + 1, 1, none⟩ = some (.int .i64 u') := Lib.cell?_alloc_some _ (by simp)
  have z0 : (((w.alloc (.cells #[.int .i64 f, .int .i64 u] 41)).alloc (.cells #[.int .i64 f', .int .i64 u'] 41)).alloc (.cells #[.int .i64 0, .int .i64 0] 41)).cell? ⟨w.heap.size + 1 + 1, 0, none⟩ = some (.int .i64 0) := by rw [World.cell?_alloc_at _ _ _ _ (by simp)]; rfl
  have z1 : (((w.alloc (.cells #[.int .i64 f, .int .i64 u] 41)).alloc (.cells #[.int .i64 f', .int .i64 u'] 41)).alloc (.cells #[.int .i64 0, .int .i64 0] 41)).cell? ⟨w.heap.size + 1 + 1, 1, none⟩ = some (.int .i64 0) := by rw [World.cell?_alloc_at _ _ _ _ (by simp)]; rfl
  have zf0 : (((w.alloc (.cells #[.int .i64 f, .int .i64 u] 41)).alloc (.cells #[.int .i64 f', .int .i64 u'] 41)).alloc (.cells #[.int .i64 0, .int .i64 0] 41)).frozen? ⟨w.heap.size + 1 + 1, 0, none⟩ = false := World.frozen?_alloc_at _ _ _ _ (by simp)
  have zf1 : (((w.alloc (.cells #[.int .i64 f, .int .i64 u] 41)).alloc (.cells #[.int .i64 f', .int .i64 u'] 41)).alloc (.cells #[.int .i64 0, .int .i64 0] 41)).frozen? ⟨w.heap.size + 1 + 1, 1, none⟩ = false := World.frozen?_alloc_at _ _ _ _ (by simp)
  have hs0 : (((w.alloc (.cells #[.int .i64 f, .int .i64 u] 41)).alloc (.cells #[.int .i64 f', .int .i64 u'] 41)).alloc (.cells #[.int .i64 0, .int .i64 0] 41)).heap.size = w.heap.size + 1 + 1 + 1 := by simp
  have BB0 : Hid (Below w.heap.size w (((w.alloc (.cells #[.int .i64 f, .int .i64 u] 41)).alloc (.cells #[.int .i64 f', .int .i64 u'] 41)).alloc (.cells #[.int .i64 0, .int .i64 0] 41))) := (((Gr.one w _).alloc _).alloc _).below
  have HS0 := Lib.hid hs0
  clear hs0
  go_enter Tryd.func22, Tryd.ntmps22
  go_wp2_with fail
  refine (HK1.out _).mono ?_
  rintro e w1 ⟨rfl, hg⟩
  replace p0 := cell_later hg.below p0
  replace p1 := cell_later hg.below p1
  replace q0 := cell_later hg.below q0
  replace q1 := cell_later hg.below q1
  replace z0 := cell_later hg.below z0
  replace z1 := cell_later hg.below z1
  have hlt0 : w.heap.size + 1 + 1 < (((w.alloc (.cells #[.int .i64 f, .int .i64 u] 41)).alloc (.cells #[.int .i64 f', .int .i64 u'] 41)).alloc (.cells #[.int .i64 0, .int .i64 0] 41)).heap.size := by rw [HS0.out]; omega
  replace zf0 := hg.frozen hlt0 zf0
  replace zf1 := hg.frozen hlt0 zf1
  have hlt1 : w.heap.size + 1 + 1 < w1.heap.size := Nat.lt_of_lt_of_le hlt0 hg.size
  have BB1 : Hid (Below w.heap.size w w1) := BB0.out.trans (hg.below.mono BB0.out.size)
  clear hg BB0 hlt0
  go_wp2_with fail
  refine (HK2.out _).mono ?_
  rintro e w2 ⟨rfl, hg⟩
  replace p0 := cell_later hg.below p0
  replace p1 := cell_later hg.below p1
  replace q0 := cell_later hg.below q0
  replace q1 := cell_later hg.below q1
  replace z0 := cell_later hg.below z0
  replace z1 := cell_later hg.below z1
  replace zf0 := hg.frozen hlt1 zf0
  replace zf1 := hg.frozen hlt1 zf1
  have hlt2 : w.heap.size + 1 + 1 < w2.heap.size := Nat.lt_of_lt_of_le hlt1 hg.size
  have BB2 : Hid (Below w.heap.size w w2) := BB1.out.trans (hg.below.mono BB1.out.size)
  clear hg BB1 hlt1
  go_wp2_with fail
  refine bodyPost_ret (v := .tuple #[.agg #[.int .i64 0, .int .i64 0], .bool false]) (by simp [results, Tryd.results22, go_sem, *]) rfl ⟨rfl, ?_⟩
  exact (BB2.out.setCell (by show _ ≤ w.heap.size + 1 + 1; omega) _).setCell (by show _ ≤ w.heap.size + 1 + 1; omega) _

set_option maxHeartbeats 2000000 in
set_option maxRecDepth 100000 in
theorem rc_000 (f u f' u' E E' : Int) (w : World)
    (K1 : ∀ W, Calls Tryd.prog 24 #[.agg #[.int .i64 f, .int .i64 u]] W fun e w' => e = .returned (.bool true) ∧ Gr W w')
    (K2 : ∀ W, Calls Tryd.prog 24 #[.agg #[.int .i64 f', .int .i64 u']] W fun e w' => e = .returned (.bool true) ∧ Gr W w')
    (K3 : ∀ W, Calls Tryd.prog 37 #[.agg #[.int .i64 f, .int .i64 u]] W fun e w' => e = .returned (.int .i64 E) ∧ Gr W w')
    (K4 : ∀ W, Calls Tryd.prog 37 #[.agg #[.int .i64 f', .int .i64 u']] W fun e w' => e = .returned (.int .i64 E') ∧ Gr W w')
    (d1 : f' ≤ f) (d2 : E ≤ E') (d3 : f ≥ E)
    : Calls Tryd.prog 22 #[.agg #[.int .i64 f, .int .i64 u], .agg #[.int .i64 f', .int .i64 u']] w fun e w' => e = .returned (.tuple #[.agg #[.int .i64 0, .int .i64 0], .bool false]) ∧ Below w.heap.size w w' := by
  have HK1 := Lib.hid K1
  have HK2 := Lib.hid K2
  have HK3 := Lib.hid K3
  have HK4 := Lib.hid K4
  clear K1 K2 K3 K4
  have p0 : (((w.alloc (.cells #[.int .i64 f, .int .i64 u] 41)).alloc (.cells #[.int .i64 f', .int .i64 u'] 41)).alloc (.cells #[.int .i64 0, .int .i64 0] 41)).cell? ⟨w.heap.size, 0, none⟩ = some (.int .i64 f) := Lib.cell?_alloc_some _ (Lib.cell?_alloc_some _ (by simp))
  have p1 : (((w.alloc (.cells #[.int .i64 f, .int .i64 u] 41)).alloc (.cells #[.int .i64 f', .int .i64 u'] 41)).alloc (.cells #[.int .i64 0, .int .i64 0] 41)).cell? ⟨w.heap.size, 1, none⟩ = some (.int .i64 u) := Lib.cell?_alloc_some _ (Lib.cell?_alloc_some _ (by simp))
  have q0 : (((w.alloc (.cells #[.int .i64 f, .int .i64 u] 41)).alloc (.cells #[.int .i64 f', .int .i64 u'] 41)).alloc (.cells #[.int .i64 0, .int .i64 0] 41)).cell? ⟨w.heap.size + 1, 0, none⟩ = some (.int .i64 f') := Lib.cell?_alloc_some _ (by simp)
  have q1 : (((w.alloc (.cells #[.int .i64 f, .int .i64 u] 41)).alloc (.cells #[.int .i64 f', .int .i64 u'] 41)).alloc (.cells #[.int .i64 0, .int .i64 0] 41)).cell? ⟨w.heap.size + 1, 1, none⟩ = some (.int .i64 u') := Lib.cell?_alloc_some _ (by simp)
  have z0 : (((w.alloc (.cells #[.int .i64 f, .int .i64 u] 41)).alloc (.cells #[.int .i64 f', .int .i64 u'] 41)).alloc (.cells #[.int .i64 0, .int .i64 0] 41)).cell? ⟨w.heap.size + 1 + 1, 0, none⟩ = some (.int .i64 0) := by rw [World.cell?_alloc_at _ _ _ _ (by simp)]; rfl
  have z1 : (((w.alloc (.cells #[.int .i64 f, .int .i64 u] 41)).alloc (.cells #[.int .i64 f', .int .i64 u'] 41)).alloc (.cells #[.int .i64 0, .int .i64 0] 41)).cell? ⟨w.heap.size + 1 + 1, 1, none⟩ = some (.int .i64 0) := by rw [World.cell?_alloc_at _ _ _ _ (by simp)]; rfl
  have zf0 : (((w.alloc (.cells #[.int .i64 f, .int .i64 u] 41)).alloc (.cells #[.int .i64 f', .int .i64 u'] 41)).alloc (.cells #[.int .i64 0, .int .i64 0] 41)).frozen? ⟨w.heap.size + 1 + 1, 0, none⟩ = false := World.frozen?_alloc_at _ _ _ _ (by simp)
  have zf1 : (((w.alloc (.cells #[.int .i64 f, .int .i64 u] 41)).alloc (.cells #[.int .i64 f', .int .i64 u'] 41)).alloc (.cells #[.int .i64 0, .int .i64 0] 41)).frozen? ⟨w.heap.size + 1 + 1, 1, none⟩ = false := World.frozen?_alloc_at _ _ _ _ (by simp)
  have hs0 : (((w.alloc (.cells #[.int .i64 f, .int .i64 u] 41)).alloc (.cells #[.int .i64 f', .int .i64 u'] 41)).alloc (.cells #[.int .i64 0, .int .i64 0] 41)).heap.size = w.heap.size + 1 + 1 + 1 := by simp
  have BB0 : Hid (Below w.heap.size w (((w.alloc (.cells #[.int .i64 f, .int .i64 u] 41)).alloc (.cells #[.int .i64 f', .int .i64 u'] 41)).alloc (.cells #[.int .i64 0, .int .i64 0] 41))) := (((Gr.one w _).alloc _).alloc _).below
  have HS0 := Lib.hid hs0
  clear hs0
  go_enter Tryd.func22, Tryd.ntmps22
  go_wp2_with fail
  refine (HK1.out _).mono ?_
  rintro e w1 ⟨rfl, hg⟩
  replace p0 := cell_later hg.below p0
  replace p1 := cell_later hg.below p1
  replace q0 := cell_later hg.below q0
  replace q1 := cell_later hg.below q1
  replace z0 := cell_later hg.below z0
  replace z1 := cell_later hg.below z1
  have hlt0 : w.heap.size + 1 + 1 < (((w.alloc (.cells #[.int .i64 f, .int .i64 u] 41)).alloc (.cells #[.int .i64 f', .int .i64 u'] 41)).alloc (.cells #[.int .i64 0, .int .i64 0] 41)).heap.size := by rw [HS0.out]; omega
  replace zf0 := hg.frozen hlt0 zf0
  replace zf1 := hg.frozen hlt0 zf1
  have hlt1 : w.heap.size + 1 + 1 < w1.heap.size := Nat.lt_of_lt_of_le hlt0 hg.size
  have BB1 : Hid (Below w.heap.size w w1) := BB0.out.trans (hg.below.mono BB0.out.size)
  clear hg BB0 hlt0
  go_wp2_with fail
  refine (HK2.out _).mono ?_
  rintro e w2 ⟨rfl, hg⟩
  replace p0 := cell_later hg.below p0
  replace p1 := cell_later hg.below p1
  replace q0 := cell_later hg.below q0
  replace q1 := cell_later hg.below q1
  replace z0 := cell_later hg.below z0
  replace z1 := cell_later hg.below z1
  replace zf0 := hg.frozen hlt1 zf0
  replace zf1 := hg.frozen hlt1 zf1
  have hlt2 : w.heap.size + 1 + 1 < w2.heap.size := Nat.lt_of_lt_of_le hlt1 hg.size
  have BB2 : Hid (Below w.heap.size w w2) := BB1.out.trans (hg.below.mono BB1.out.size)
  clear hg BB1 hlt1
  go_wp2_with fail
  refine (HK3.out _).mono ?_
  rintro e w3 ⟨rfl, hg⟩
  replace p0 := cell_later hg.below p0
  replace p1 := cell_later hg.below p1
  replace q0 := cell_later hg.below q0
  replace q1 := cell_later hg.below q1
  replace z0 := cell_later hg.below z0
  replace z1 := cell_later hg.below z1
  replace zf0 := hg.frozen hlt2 zf0
  replace zf1 := hg.frozen hlt2 zf1
  have hlt3 : w.heap.size + 1 + 1 < w3.heap.size := Nat.lt_of_lt_of_le hlt2 hg.size
  have BB3 : Hid (Below w.heap.size w w3) := BB2.out.trans (hg.below.mono BB2.out.size)
  clear hg BB2 hlt2
  go_wp2_with fail
  refine (HK4.out _).mono ?_
  rintro e w4 ⟨rfl, hg⟩
  replace p0 := cell_later hg.below p0
  replace p1 := cell_later hg.below p1
  replace q0 := cell_later hg.below q0
  replace q1 := cell_later hg.below q1
  replace z0 := cell_later hg.below z0
  replace z1 := cell_later hg.below z1
  replace zf0 := hg.frozen hlt3 zf0
  replace zf1 := hg.frozen hlt3 zf1
  have hlt4 : w.heap.size + 1 + 1 < w4.heap.size := Nat.lt_of_lt_of_le hlt3 hg.size
  have BB4 : Hid (Below w.heap.size w w4) := BB3.out.trans (hg.below.mono BB3.out.size)
  clear hg BB3 hlt3
  go_wp2_with fail
  refine bodyPost_ret (v := .tuple #[.agg #[.int .i64 0, .int .i64 0], .bool false]) (by simp [results, Tryd.results22, go_sem, *]) rfl ⟨rfl, ?_⟩
  exact (BB4.out.setCell (by show _ ≤ w.heap.size + 1 + 1; omega) _).setCell (by show _ ≤ w.heap.size + 1 + 1; omega) _

set_option maxHeartbeats 2000000 in
set_option maxRecDepth 100000 in
theorem rc_001 (f u f' u' E E' : Int) (w : World)
    (K1 : ∀ W, Calls Tryd.prog 24 #[.agg #[.int .i64 f, .int .i64 u]] W fun e w' => e = .returned (.bool true) ∧ Gr W w')
    (K2 : ∀ W, Calls Tryd.prog 24 #[.agg #[.int .i64 f', .int .i64 u']] W fun e w' => e = .returned (.bool true) ∧ Gr W w')
    (K3 : ∀ W, Calls Tryd.prog 37 #[.agg #[.int .i64 f, .int .i64 u]] W fun e w' => e = .returned (.int .i64 E) ∧ Gr W w')
    (K4 : ∀ W, Calls Tryd.prog 37 #[.agg #[.int .i64 f', .int .i64 u']] W fun e w' => e = .returned (.int .i64 E') ∧ Gr W w')
    (d1 : f' ≤ f) (d2 : E ≤ E') (d3 : f < E)
    : Calls Tryd.prog 22 #[.agg #[.int .i64 f, .int .i64 u], .agg #[.int .i64 f', .int .i64 u']] w fun e w' => e = .returned (.tuple #[.agg #[.int .i64 f, .int .i64 (unt E)], .bool true]) ∧ Below w.heap.size w w' := by
  have HK1 := Lib.hid K1
  have HK2 := Lib.hid K2
  have HK3 := Lib.hid K3
  have HK4 := Lib.hid K4
  clear K1 K2 K3 K4
  have p0 : (((w.alloc (.cells #[.int .i64 f, .int .i64 u] 41)).alloc (.cells #[.int .i64 f', .int .i64 u'] 41)).alloc (.cells #[.int .i64 0, .int .i64 0] 41)).cell? ⟨w.heap.size, 0, none⟩ = some (.int .i64 f) := Lib.cell?_alloc_some _ (Lib.cell?_alloc_some _ (by simp))
  have p1 : (((w.alloc (.cells #[.int .i64 f, .int .i64 u] 41)).alloc (.cells #[.int .i64 f', .int .i64 u'] 41)).alloc (.cells #[.int .i64 0, .int .i64 0] 41)).cell? ⟨w.heap.size, 1, none⟩ = some (.int .i64 u) := Lib.cell?_alloc_some _ (Lib.cell?_alloc_some _ (by simp))
  have q0 : (((w.alloc (.cells #[.int .i64 f, .int .i64 u] 41)).alloc (.cells #[.int .i64 f', .int .i64 u'] 41)).alloc (.cells #[.int .i64 0, .int .i64 0] 41)).cell? ⟨w.heap.size + 1, 0, none⟩ = some (.int .i64 f') := Lib.cell?_alloc_some _ (by simp)
  have q1 : (((w.alloc (.cells #[.int .i64 f, .int .i64 u] 41)).alloc (.cells #[.int .i64 f', .int .i64 u'] 41)).alloc (.cells #[.int .i64 0, .int .i64 0] 41)).cell? ⟨w.heap.size + 1, 1, none⟩ = some (.int .i64 u') := Lib.cell?_alloc_some _ (by simp)
  have z0 : (((w.alloc (.cells #[.int .i64 f, .int .i64 u] 41)).alloc (.cells #[.int .i64 f', .int .i64 u'] 41)).alloc (.cells #[.int .i64 0, .int .i64 0] 41)).cell? ⟨w.heap.size + 1 + 1, 0, none⟩ = some (.int .i64 0) := by rw [World.cell?_alloc_at _ _ _ _ (by simp)]; rfl
  have z1 : (((w.alloc (.cells #[.int .i64 f, .int .i64 u] 41)).alloc (.cells #[.int .i64 f', .int .i64 u'] 41)).alloc (.cells #[.int .i64 0, .int .i64 0] 41)).cell? ⟨w.heap.size + 1 + 1, 1, none⟩ = some (.int .i64 0) := by rw [World.cell?_alloc_at _ _ _ _ (by simp)]; rfl
  have zf0 : (((w.alloc (.cells #[.int .i64 f, .int .i64 u] 41)).alloc (.cells #[.int .i64 f', .int .i64 u'] 41)).alloc (.cells #[.int .i64 0, .int .i64 0] 41)).frozen? ⟨w.heap.size + 1 + 1, 0, none⟩ = false := World.frozen?_alloc_at _ _ _ _ (by simp)
  have zf1 : (((w.alloc (.cells #[.int .i64 f, .int .i64 u] 41)).alloc (.cells #[.int .i64 f', .int .i64 u'] 41)).alloc (.cells #[.int .i64 0, .int .i64 0] 41)).frozen? ⟨w.heap.size + 1 + 1, 1, none⟩ = false := World.frozen?_alloc_at _ _ _ _ (by simp)
  have hs0 : (((w.alloc (.cells #[.int .i64 f, .int .i64 u] 41)).alloc (.cells #[.int .i64 f', .int .i64 u'] 41)).alloc (.cells #[.int .i64 0, .int .i64 0] 41)).heap.size = w.heap.size + 1 + 1 + 1 := by simp
  have BB0 : Hid (Below w.heap.size w (((w.alloc (.cells #[.int .i64 f, .int .i64 u] 41)).alloc (.cells #[.int .i64 f', .int .i64 u'] 41)).alloc (.cells #[.int .i64 0, .int .i64 0] 41))) := (((Gr.one w _).alloc _).alloc _).below
  have HS0 := Lib.hid hs0
  clear hs0
  go_enter Tryd.func22, Tryd.ntmps22
  go_wp2_with fail
  refine (HK1.out _).mono ?_
  rintro e w1 ⟨rfl, hg⟩
  replace p0 := cell_later hg.below p0
  replace p1 := cell_later hg.below p1
  replace q0 := cell_later hg.below q0
  replace q1 := cell_later hg.below q1
  replace z0 := cell_later hg.below z0
  replace z1 := cell_later hg.below z1
  have hlt0 : w.heap.size + 1 + 1 < (((w.alloc (.cells #[.int .i64 f, .int .i64 u] 41)).alloc (.cells #[.int .i64 f', .int .i64 u'] 41)).alloc (.cells #[.int .i64 0, .int .i64 0] 41)).heap.size := by rw [HS0.out]; omega
  replace zf0 := hg.frozen hlt0 zf0
  replace zf1 := hg.frozen hlt0 zf1
  have hlt1 : w.heap.size + 1 + 1 < w1.heap.size := Nat.lt_of_lt_of_le hlt0 hg.size
  have BB1 : Hid (Below w.heap.size w w1) := BB0.out.trans (hg.below.mono BB0.out.size)
  clear hg BB0 hlt0
  go_wp2_with fail
  refine (HK2.out _).mono ?_
  rintro e w2 ⟨rfl, hg⟩
  replace p0 := cell_later hg.below p0
  replace p1 := cell_later hg.below p1
  replace q0 := cell_later hg.below q0
  replace q1 := cell_later hg.below q1
  replace z0 := cell_later hg.below z0
  replace z1 := cell_later hg.below z1
  replace zf0 := hg.frozen hlt1 zf0
  replace zf1 := hg.frozen hlt1 zf1
  have hlt2 : w.heap.size + 1 + 1 < w2.heap.size := Nat.lt_of_lt_of_le hlt1 hg.size
  have BB2 : Hid (Below w.heap.size w w2) := BB1.out.trans (hg.below.mono BB1.out.size)
  clear hg BB1 hlt1
  go_wp2_with fail
  refine (HK3.out _).mono ?_
  rintro e w3 ⟨rfl, hg⟩
  replace p0 := cell_later hg.below p0
  replace p1 := cell_later hg.below p1
  replace q0 := cell_later hg.below q0
  replace q1 := cell_later hg.below q1
  replace z0 := cell_later hg.below z0
  replace z1 := cell_later hg.below z1
  replace zf0 := hg.frozen hlt2 zf0
  replace zf1 := hg.frozen hlt2 zf1
  have hlt3 : w.heap.size + 1 + 1 < w3.heap.size := Nat.lt_of_lt_of_le hlt2 hg.size
  have BB3 : Hid (Below w.heap.size w w3) := BB2.out.trans (hg.below.mono BB2.out.size)
  clear hg BB2 hlt2
  go_wp2_with fail
  refine (HK4.out _).mono ?_
  rintro e w4 ⟨rfl, hg⟩
  replace p0 := cell_later hg.below p0
  replace p1 := cell_later hg.below p1
  replace q0 := cell_later hg.below q0
  replace q1 := cell_later hg.below q1
  replace z0 := cell_later hg.below z0
  replace z1 := cell_later hg.below z1
  replace zf0 := hg.frozen hlt3 zf0
  replace zf1 := hg.frozen hlt3 zf1
  have hlt4 : w.heap.size + 1 + 1 < w4.heap.size := Nat.lt_of_lt_of_le hlt3 hg.size
  have BB4 : Hid (Below w.heap.size w w4) := BB3.out.trans (hg.below.mono BB3.out.size)
  clear hg BB3 hlt3
  go_wp2_with fail
  refine (until_any _ _).mono ?_
  rintro e w' ⟨rfl, rfl⟩
  go_wp2_with fail
  refine bodyPost_ret (v := .tuple #[.agg #[.int .i64 f, .int .i64 (unt E)], .bool true]) (by simp [results, Tryd.results22, go_sem, *]) rfl ⟨rfl, ?_⟩
  exact (BB4.out.setCell (by show _ ≤ w.heap.size + 1 + 1; omega) _).setCell (by show _ ≤ w.heap.size + 1 + 1; omega) _

set_option maxHeartbeats 2000000 in
set_option maxRecDepth 100000 in
theorem rc_010 (f u f' u' E E' : Int) (w : World)
    (K1 : ∀ W, Calls Tryd.prog 24 #[.agg #[.int .i64 f, .int .i64 u]] W fun e w' => e = .returned (.bool true) ∧ Gr W w')
    (K2 : ∀ W, Calls Tryd.prog 24 #[.agg #[.int .i64 f', .int .i64 u']] W fun e w' => e = .returned (.bool true) ∧ Gr W w')
    (K3 : ∀ W, Calls Tryd.prog 37 #[.agg #[.int .i64 f, .int .i64 u]] W fun e w' => e = .returned (.int .i64 E) ∧ Gr W w')
    (K4 : ∀ W, Calls Tryd.prog 37 #[.agg #[.int .i64 f', .int .i64 u']] W fun e w' => e = .returned (.int .i64 E') ∧ Gr W w')
    (d1 : f' ≤ f) (d2 : E' < E) (d3 : f ≥ E')
    : Calls Tryd.prog 22 #[.agg #[.int .i64 f, .int .i64 u], .agg #[.int .i64 f', .int .i64 u']] w fun e w' => e = .returned (.tuple #[.agg #[.int .i64 0, .int .i64 0], .bool false]) ∧ Below w.heap.size w w' := by
  have HK1 := Lib.hid K1
  have HK2 := Lib.hid K2
  have HK3 := Lib.hid K3
  have HK4 := Lib.hid K4
  clear K1 K2 K3 K4
  have p0 : (((w.alloc (.cells #[.int .i64 f, .int .i64 u] 41)).alloc (.cells #[.int .i64 f', .int .i64 u'] 41)).alloc (.cells #[.int .i64 0, .int .i64 0] 41)).cell? ⟨w.heap.size, 0, none⟩ = some (.int .i64 f) := Lib.cell?_alloc_some _ (Lib.cell?_alloc_some _ (by simp))
  have p1 : (((w.alloc (.cells #[.int .i64 f, .int .i64 u] 41)).alloc (.cells #[.int .i64 f', .int .i64 u'] 41)).alloc (.cells #[.int .i64 0, .int .i64 0] 41)).cell? ⟨w.heap.size, 1, none⟩ = some (.int .i64 u) := Lib.cell?_alloc_some _ (Lib.cell?_alloc_some _ (by simp))
  have q0 : (((w.alloc (.cells #[.int .i64 f, .int .i64 u] 41)).alloc (.cells #[.int .i64 f', .int .i64 u'] 41)).alloc (.cells #[.int .i64 0, .int .i64 0] 41)).cell? ⟨w.heap.size + 1, 0, none⟩ = some (.int .i64 f') := Lib.cell?_alloc_some _ (by simp)
  have q1 : (((w.alloc (.cells #[.int .i64 f, .int .i64 u] 41)).alloc (.cells #[.int .i64 f', .int .i64 u'] 41)).alloc (.cells #[.int .i64 0, .int .i64 0] 41)).cell? ⟨w.heap.size + 1, 1, none⟩ = some (.int .i64 u') := Lib.cell?_alloc_some _ (by simp)
  have z0 : (((w.alloc (.cells #[.int .i64 f, .int .i64 u] 41)).alloc (.cells #[.int .i64 f', .int .i64 u'] 41)).alloc (.cells #[.int .i64 0, .int .i64 0] 41)).cell? ⟨w.heap.size + 1 + 1, 0, none⟩ = some (.int .i64 0) := by rw [World.cell?_alloc_at _ _ _ _ (by simp)]; rfl
  have z1 : (((w.alloc (.cells #[.int .i64 f, .int .i64 u] 41)).alloc (.cells #[.int .i64 f', .int .i64 u'] 41)).alloc (.cells #[.int .i64 0, .int .i64 0] 41)).cell? ⟨w.heap.size + 1 + 1, 1, none⟩ = some (.int .i64 0) := by rw [World.cell?_alloc_at _ _ _ _ (by simp)]; rfl
  have zf0 : (((w.alloc (.cells #[.int .i64 f, .int .i64 u] 41)).alloc (.cells #[.int .i64 f', .int .i64 u'] 41)).alloc (.cells #[.int .i64 0, .int .i64 0] 41)).frozen? ⟨w.heap.size + 1 + 1, 0, none⟩ = false := World.frozen?_alloc_at _ _ _ _ (by simp)
  have zf1 : (((w.alloc (.cells #[.int .i64 f, .int .i64 u] 41)).alloc (.cells #[.int .i64 f', .int .i64 u'] 41)).alloc (.cells #[.int .i64 0, .int .i64 0] 41)).frozen? ⟨w.heap.size + 1 + 1, 1, none⟩ = false := World.frozen?_alloc_at _ _ _ _ (by simp)
  have hs0 : (((w.alloc (.cells #[.int .i64 f, .int .i64 u] 41)).alloc (.cells #[.int .i64 f', .int .i64 u'] 41)).alloc (.cells #[.int .i64 0, .int .i64 0] 41)).heap.size = w.heap.size + 1 + 1 + 1 := by simp
  have BB0 : Hid (Below w.heap.size w (((w.alloc (.cells #[.int .i64 f, .int .i64 u] 41)).alloc (.cells #[.int .i64 f', .int .i64 u'] 41)).alloc (.cells #[.int .i64 0, .int .i64 0] 41))) := (((Gr.one w _).alloc _).alloc _).below
  have HS0 := Lib.hid hs0
  clear hs0
  go_enter Tryd.func22, Tryd.ntmps22
  go_wp2_with fail
  refine (HK1.out _).mono ?_
  rintro e w1 ⟨rfl, hg⟩
  replace p0 := cell_later hg.below p0
  replace p1 := cell_later hg.below p1
  replace q0 := cell_later hg.below q0
  replace q1 := cell_later hg.below q1
  replace z0 := cell_later hg.below z0
  replace z1 := cell_later hg.below z1
  have hlt0 : w.heap.size + 1 + 1 < (((w.alloc (.cells #[.int .i64 f, .int .i64 u] 41)).alloc (.cells #[.int .i64 f', .int .i64 u'] 41)).alloc (.cells #[.int .i64 0, .int .i64 0] 41)).heap.size := by rw [HS0.out]; omega
  replace zf0 := hg.frozen hlt0 zf0
  replace zf1 := hg.frozen hlt0 zf1
  have hlt1 : w.heap.size + 1 + 1 < w1.heap.size := Nat.lt_of_lt_of_le hlt0 hg.size
  have BB1 : Hid (Below w.heap.size w w1) := BB0.out.trans (hg.below.mono BB0.out.size)
  clear hg BB0 hlt0
  go_wp2_with fail
  refine (HK2.out _).mono ?_
  rintro e w2 ⟨rfl, hg⟩
  replace p0 := cell_later hg.below p0
  replace p1 := cell_later hg.below p1
  replace q0 := cell_later hg.below q0
  replace q1 := cell_later hg.below q1
  replace z0 := cell_later hg.below z0
  replace z1 := cell_later hg.below z1
  replace zf0 := hg.frozen hlt1 zf0
  replace zf1 := hg.frozen hlt1 zf1
  have hlt2 : w.heap.size + 1 + 1 < w2.heap.size := Nat.lt_of_lt_of_le hlt1 hg.size
  have BB2 : Hid (Below w.heap.size w w2) := BB1.out.trans (hg.below.mono BB1.out.size)
  clear hg BB1 hlt1
  go_wp2_with fail
  refine (HK3.out _).mono ?_
  rintro e w3 ⟨rfl, hg⟩
  replace p0 := cell_later hg.below p0
  replace p1 := cell_later hg.below p1
  replace q0 := cell_later hg.below q0
  replace q1 := cell_later hg.below q1
  replace z0 := cell_later hg.below z0
  replace z1 := cell_later hg.below z1
  replace zf0 := hg.frozen hlt2 zf0
  replace zf1 := hg.frozen hlt2 zf1
  have hlt3 : w.heap.size + 1 + 1 < w3.heap.size := Nat.lt_of_lt_of_le hlt2 hg.size
  have BB3 : Hid (Below w.heap.size w w3) := BB2.out.trans (hg.below.mono BB2.out.size)
  clear hg BB2 hlt2
  go_wp2_with fail
  refine (HK4.out _).mono ?_
  rintro e w4 ⟨rfl, hg⟩
  replace p0 := cell_later hg.below p0
  replace p1 := cell_later hg.below p1
  replace q0 := cell_later hg.below q0
  replace q1 := cell_later hg.below q1
  replace z0 := cell_later hg.below z0
  replace z1 := cell_later hg.below z1
  replace zf0 := hg.frozen hlt3 zf0
  replace zf1 := hg.frozen hlt3 zf1
  have hlt4 : w.heap.size + 1 + 1 < w4.heap.size := Nat.lt_of_lt_of_le hlt3 hg.size
  have BB4 : Hid (Below w.heap.size w w4) := BB3.out.trans (hg.below.mono BB3.out.size)
  clear hg BB3 hlt3
  go_wp2_with fail
  refine (HK4.out _).mono ?_
  rintro e w5 ⟨rfl, hg⟩
  replace p0 := cell_later hg.below p0
  replace p1 := cell_later hg.below p1
  replace q0 := cell_later hg.below q0
  replace q1 := cell_later hg.below q1
  replace z0 := cell_later hg.below z0
  replace z1 := cell_later hg.below z1
  replace zf0 := hg.frozen hlt4 zf0
  replace zf1 := hg.frozen hlt4 zf1
  have hlt5 : w.heap.size + 1 + 1 < w5.heap.size := Nat.lt_of_lt_of_le hlt4 hg.size
  have BB5 : Hid (Below w.heap.size w w5) := BB4.out.trans (hg.below.mono BB4.out.size)
  clear hg BB4 hlt4
  go_wp2_with fail
  refine bodyPost_ret (v := .tuple #[.agg #[.int .i64 0, .int .i64 0], .bool false]) (by simp [results, Tryd.results22, go_sem, *]) rfl ⟨rfl, ?_⟩
  exact (BB5.out.setCell (by show _ ≤ w.heap.size + 1 + 1; omega) _).setCell (by show _ ≤ w.heap.size + 1 + 1; omega) _

set_option maxHeartbeats 2000000 in
set_option maxRecDepth 100000 in
theorem rc_011 (f u f' u' E E' : Int) (w : World)
    (K1 : ∀ W, Calls Tryd.prog 24 #[.agg #[.int .i64 f, .int .i64 u]] W fun e w' => e = .returned (.bool true) ∧ Gr W w')
    (K2 : ∀ W, Calls Tryd.prog 24 #[.agg #[.int .i64 f', .int .i64 u']] W fun e w' => e = .returned (.bool true) ∧ Gr W w')
    (K3 : ∀ W, Calls Tryd.prog 37 #[.agg #[.int .i64 f, .int .i64 u]] W fun e w' => e = .returned (.int .i64 E) ∧ Gr W w')
    (K4 : ∀ W, Calls Tryd.prog 37 #[.agg #[.int .i64 f', .int .i64 u']] W fun e w' => e = .returned (.int .i64 E') ∧ Gr W w')
    (d1 : f' ≤ f) (d2 : E' < E) (d3 : f < E')
    : Calls Tryd.prog 22 #[.agg #[.int .i64 f, .int .i64 u], .agg #[.int .i64 f', .int .i64 u']] w fun e w' => e = .returned (.tuple #[.agg #[.int .i64 f, .int .i64 (unt E')], .bool true]) ∧ Below w.heap.size w w' := by
  have HK1 := Lib.hid K1
  have HK2 := Lib.hid K2
  have HK3 := Lib.hid K3
  have HK4 := Lib.hid K4
  clear K1 K2 K3 K4
  have p0 : (((w.alloc (.cells #[.int .i64 f, .int .i64 u] 41)).alloc (.cells #[.int .i64 f', .int .i64 u'] 41)).alloc (.cells #[.int .i64 0, .int .i64 0] 41)).cell? ⟨w.heap.size, 0, none⟩ = some (.int .i64 f) := Lib.cell?_alloc_some _ (Lib.cell?_alloc_some _ (by simp))
  have p1 : (((w.alloc (.cells #[.int .i64 f, .int .i64 u] 41)).alloc (.cells #[.int .i64 f', .int .i64 u'] 41)).alloc (.cells #[.int .i64 0, .int .i64 0] 41)).cell? ⟨w.heap.size, 1, none⟩ = some (.int .i64 u) := Lib.cell?_alloc_some _ (Lib.cell?_alloc_some _ (by simp))
  have q0 : (((w.alloc (.cells #[.int .i64 f, .int .i64 u] 41)).alloc (.cells #[.int .i64 f', .int .i64 u'] 41)).alloc (.cells #[.int .i64 0, .int .i64 0] 41)).cell? ⟨w.heap.size + 1, 0, none⟩ = some (.int .i64 f') := Lib.cell?_alloc_some _ (by simp)
  have q1 : (((w.alloc (.cells #[.int .i64 f, .int .i64 u] 41)).alloc (.cells #[.int .i64 f', .int .i64 u'] 41)).alloc (.cells #[.int .i64 0, .int .i64 0] 41)).cell? ⟨w.heap.size + 1, 1, none⟩ = some (.int .i64 u') := Lib.cell?_alloc_some _ (by simp)
  have z0 : (((w.alloc (.cells #[.int .i64 f, .int .i64 u] 41)).alloc (.cells #[.int .i64 f', .int .i64 u'] 41)).alloc (.cells #[.int .i64 0, .int .i64 0] 41)).cell? ⟨w.heap.size + 1 + 1, 0, none⟩ = some (.int .i64 0) := by rw [World.cell?_alloc_at _ _ _ _ (by simp)]; rfl
  have z1 : (((w.alloc (.cells #[.int .i64 f, .int .i64 u] 41)).alloc (.cells #[.int .i64 f', .int .i64 u'] 41)).alloc (.cells #[.int .i64 0, .int .i64 0] 41)).cell? ⟨w.heap.size + 1 + 1, 1, none⟩ = some (.int .i64 0) := by rw [World.cell?_alloc_at _ _ _ _ (by simp)]; rfl
  have zf0 : (((w.alloc (.cells #[.int .i64 f, .int .i64 u] 41)).alloc (.cells #[.int .i64 f', .int .i64 u'] 41)).alloc (.cells #[.int .i64 0, .int .i64 0] 41)).frozen? ⟨w.heap.size + 1 + 1, 0, none⟩ = false := World.frozen?_alloc_at _ _ _ _ (by simp)
  have zf1 : (((w.alloc (.cells #[.int .i64 f, .int .i64 u] 41)).alloc (.cells #[.int .i64 f', .int .i64 u'] 41)).alloc (.cells #[.int .i64 0, .int .i64 0] 41)).frozen? ⟨w.heap.size + 1 + 1, 1, none⟩ = false := World.frozen?_alloc_at _ _ _ _ (by simp)
  have hs0 : (((w.alloc (.cells #[.int .i64 f, .int .i64 u] 41)).alloc (.cells #[.int .i64 f', .int .i64 u'] 41)).alloc (.cells #[.int .i64 0, .int .i64 0] 41)).heap.size = w.heap.size + 1 + 1 + 1 := by simp
  have BB0 : Hid (Below w.heap.size w (((w.alloc (.cells #[.int .i64 f, .int .i64 u] 41)).alloc (.cells #[.int .i64 f', .int .i64 u'] 41)).alloc (.cells #[.int .i64 0, .int .i64 0] 41))) := (((Gr.one w _).alloc _).alloc _).below
  have HS0 := Lib.hid hs0
  clear hs0
  go_enter Tryd.func22, Tryd.ntmps22
  go_wp2_with fail
  refine (HK1.out _).mono ?_
  rintro e w1 ⟨rfl, hg⟩
  replace p0 := cell_later hg.below p0
  replace p1 := cell_later hg.below p1
  replace q0 := cell_later hg.below q0
  replace q1 := cell_later hg.below q1
  replace z0 := cell_later hg.below z0
  replace z1 := cell_later hg.below z1
  have hlt0 : w.heap.size + 1 + 1 < (((w.alloc (.cells #[.int .i64 f, .int .i64 u] 41)).alloc (.cells #[.int .i64 f', .int .i64 u'] 41)).alloc (.cells #[.int .i64 0, .int .i64 0] 41)).heap.size := by rw [HS0.out]; omega
  replace zf0 := hg.frozen hlt0 zf0
  replace zf1 := hg.frozen hlt0 zf1
  have hlt1 : w.heap.size + 1 + 1 < w1.heap.size := Nat.lt_of_lt_of_le hlt0 hg.size
  have BB1 : Hid (Below w.heap.size w w1) := BB0.out.trans (hg.below.mono BB0.out.size)
  clear hg BB0 hlt0
  go_wp2_with fail
  refine (HK2.out _).mono ?_
  rintro e w2 ⟨rfl, hg⟩
  replace p0 := cell_later hg.below p0
  replace p1 := cell_later hg.below p1
  replace q0 := cell_later hg.below q0
  replace q1 := cell_later hg.below q1
  replace z0 := cell_later hg.below z0
  replace z1 := cell_later hg.below z1
  replace zf0 := hg.frozen hlt1 zf0
  replace zf1 := hg.frozen hlt1 zf1
  have hlt2 : w.heap.size + 1 + 1 < w2.heap.size := Nat.lt_of_lt_of_le hlt1 hg.size
  have BB2 : Hid (Below w.heap.size w w2) := BB1.out.trans (hg.below.mono BB1.out.size)
  clear hg BB1 hlt1
  go_wp2_with fail
  refine (HK3.out _).mono ?_
  rintro e w3 ⟨rfl, hg⟩
  replace p0 := cell_later hg.below p0
  replace p1 := cell_later hg.below p1
  replace q0 := cell_later hg.below q0
  replace q1 := cell_later hg.below q1
  replace z0 := cell_later hg.below z0
  replace z1 := cell_later hg.below z1
  replace zf0 := hg.frozen hlt2 zf0
  replace zf1 := hg.frozen hlt2 zf1
  have hlt3 : w.heap.size + 1 + 1 < w3.heap.size := Nat.lt_of_lt_of_le hlt2 hg.size
  have BB3 : Hid (Below w.heap.size w w3) := BB2.out.trans (hg.below.mono BB2.out.size)
  clear hg BB2 hlt2
  go_wp2_with fail
  refine (HK4.out _).mono ?_
  rintro e w4 ⟨rfl, hg⟩
  replace p0 := cell_later hg.below p0
  replace p1 := cell_later hg.below p1
  replace q0 := cell_later hg.below q0
  replace q1 := cell_later hg.below q1
  replace z0 := cell_later hg.below z0
  replace z1 := cell_later hg.below z1
  replace zf0 := hg.frozen hlt3 zf0
  replace zf1 := hg.frozen hlt3 zf1
  have hlt4 : w.heap.size + 1 + 1 < w4.heap.size := Nat.lt_of_lt_of_le hlt3 hg.size
  have BB4 : Hid (Below w.heap.size w w4) := BB3.out.trans (hg.below.mono BB3.out.size)
  clear hg BB3 hlt3
  go_wp2_with fail
  refine (HK4.out _).mono ?_
  rintro e w5 ⟨rfl, hg⟩
  replace p0 := cell_later hg.below p0
  replace p1 := cell_later hg.below p1
  replace q0 := cell_later hg.below q0
  replace q1 := cell_later hg.below q1
  replace z0 := cell_later hg.below z0
  replace z1 := cell_later hg.below z1
  replace zf0 := hg.frozen hlt4 zf0
  replace zf1 := hg.frozen hlt4 zf1
  have hlt5 : w.heap.size + 1 + 1 < w5.heap.size := Nat.lt_of_lt_of_le hlt4 hg.size
  have BB5 : Hid (Below w.heap.size w w5) := BB4.out.trans (hg.below.mono BB4.out.size)
  clear hg BB4 hlt4
  go_wp2_with fail
  refine (until_any _ _).mono ?_
  rintro e w' ⟨rfl, rfl⟩
  go_wp2_with fail
  refine bodyPost_ret (v := .tuple #[.agg #[.int .i64 f, .int .i64 (unt E')], .bool true]) (by simp [results, Tryd.results22, go_sem, *]) rfl ⟨rfl, ?_⟩
  exact (BB5.out.setCell (by show _ ≤ w.heap.size + 1 + 1; omega) _).setCell (by show _ ≤ w.heap.size + 1 + 1; omega) _

set_option maxHeartbeats 2000000 in
set_option maxRecDepth 100000 in
theorem rc_100 (f u f' u' E E' : Int) (w : World)
    (K1 : ∀ W, Calls Tryd.prog 24 #[.agg #[.int .i64 f, .int .i64 u]] W fun e w' => e = .returned (.bool true) ∧ Gr W w')
    (K2 : ∀ W, Calls Tryd.prog 24 #[.agg #[.int .i64 f', .int .i64 u']] W fun e w' => e = .returned (.bool true) ∧ Gr W w')
    (K3 : ∀ W, Calls Tryd.prog 37 #[.agg #[.int .i64 f, .int .i64 u]] W fun e w' => e = .returned (.int .i64 E) ∧ Gr W w')
    (K4 : ∀ W, Calls Tryd.prog 37 #[.agg #[.int .i64 f', .int .i64 u']] W fun e w' => e = .returned (.int .i64 E') ∧ Gr W w')
    (d1 : f < f') (d2 : E ≤ E') (d3 : f' ≥ E)
    : Calls Tryd.prog 22 #[.agg #[.int .i64 f, .int .i64 u], .agg #[.int .i64 f', .int .i64 u']] w fun e w' => e = .returned (.tuple #[.agg #[.int .i64 0, .int .i64 0], .bool false]) ∧ Below w.heap.size w w' := by
  have HK1 := Lib.hid K1
  have HK2 := Lib.hid K2
  have HK3 := Lib.hid K3
  have HK4 := Lib.hid K4
  clear K1 K2 K3 K4
  have p0 : (((w.alloc (.cells #[.int .i64 f, .int .i64 u] 41)).alloc (.cells #[.int .i64 f', .int .i64 u'] 41)).alloc (.cells #[.int .i64 0, .int .i64 0] 41)).cell? ⟨w.heap.size, 0, none⟩ = some (.int .i64 f) := Lib.cell?_alloc_some _ (Lib.cell?_alloc_some _ (by simp))
  have p1 : (((w.alloc (.cells #[.int .i64 f, .int .i64 u] 41)).alloc (.cells #[.int .i64 f', .int .i64 u'] 41)).alloc (.cells #[.int .i64 0, .int .i64 0] 41)).cell? ⟨w.heap.size, 1, none⟩ = some (.int .i64 u) := Lib.cell?_alloc_some _ (Lib.cell?_alloc_some _ (by simp))
  have q0 : (((w.alloc (.cells #[.int .i64 f, .int .i64 u] 41)).alloc (.cells #[.int .i64 f', .int .i64 u'] 41)).alloc (.cells #[.int .i64 0, .int .i64 0] 41)).cell? ⟨w.heap.size + 1, 0, none⟩ = some (.int .i64 f') := Lib.cell?_alloc_some _ (by simp)
  have q1 : (((w.alloc (.cells #[.int .i64 f, .int .i64 u] 41)).alloc (.cells #[.int .i64 f', .int .i64 u'] 41)).alloc (.cells #[.int .i64 0, .int .i64 0] 41)).cell? ⟨w.heap.size + 1, 1, none⟩ = some (.int .i64 u') := Lib.cell?_alloc_some _ (by simp)
  have z0 : (((w.alloc (.cells #[.int .i64 f, .int .i64 u] 41)).alloc (.cells #[.int .i64 f', .int .i64 u'] 41)).alloc (.cells #[.int .i64 0, .int .i64 0] 41)).cell? ⟨w.heap.size + 1 + 1, 0, none⟩ = some (.int .i64 0) := by rw [World.cell?_alloc_at _ _ _ _ (by simp)]; rfl
  have z1 : (((w.alloc (.cells #[.int .i64 f, .int .i64 u] 41)).alloc (.cells #[.int .i64 f', .int .i64 u'] 41)).alloc (.cells #[.int .i64 0, .int .i64 0] 41)).cell? ⟨w.heap.size + 1 + 1, 1, none⟩ = some (.int .i64 0) := by rw [World.cell?_alloc_at _ _ _ _ (by simp)]; rfl
  have zf0 : (((w.alloc (.cells #[.int .i64 f, .int .i64 u] 41)).alloc (.cells #[.int .i64 f', .int .i64 u'] 41)).alloc (.cells #[.int .i64 0, .int .i64 0] 41)).frozen? ⟨w.heap.size + 1 + 1, 0, none⟩ = false := World.frozen?_alloc_at _ _ _ _ (by simp)
  have zf1 : (((w.alloc (.cells #[.int .i64 f, .int .i64 u] 41)).alloc (.cells #[.int .i64 f', .int .i64 u'] 41)).alloc (.cells #[.int .i64 0, .int .i64 0] 41)).frozen? ⟨w.heap.size + 1 + 1, 1, none⟩ = false := World.frozen?_alloc_at _ _ _ _ (by simp)
  have hs0 : (((w.alloc (.cells #[.int .i64 f, .int .i64 u] 41)).alloc (.cells #[.int .i64 f', .int .i64 u'] 41)).alloc (.cells #[.int .i64 0, .int .i64 0] 41)).heap.size = w.heap.size + 1 + 1 + 1 := by simp
  have BB0 : Hid (Below w.heap.size w (((w.alloc (.cells #[.int .i64 f, .int .i64 u] 41)).alloc (.cells #[.int .i64 f', .int .i64 u'] 41)).alloc (.cells #[.int .i64 0, .int .i64 0] 41))) := (((Gr.one w _).alloc _).alloc _).below
  have HS0 := Lib.hid hs0
  clear hs0
  go_enter Tryd.func22, Tryd.ntmps22
  go_wp2_with fail
  refine (HK1.out _).mono ?_
  rintro e w1 ⟨rfl, hg⟩
  replace p0 := cell_later hg.below p0
  replace p1 := cell_later hg.below p1
  replace q0 := cell_later hg.below q0
  replace q1 := cell_later hg.below q1
  replace z0 := cell_later hg.below z0
  replace z1 := cell_later hg.below z1
  have hlt0 : w.heap.size + 1 + 1 < (((w.alloc (.cells #[.int .i64 f, .int .i64 u] 41)).alloc (.cells #[.int .i64 f', .int .i64 u'] 41)).alloc (.cells #[.int .i64 0, .int .i64 0] 41)).heap.size := by rw [HS0.out]; omega
  replace zf0 := hg.frozen hlt0 zf0
  replace zf1 := hg.frozen hlt0 zf1
  have hlt1 : w.heap.size + 1 + 1 < w1.heap.size := Nat.lt_of_lt_of_le hlt0 hg.size
  have BB1 : Hid (Below w.heap.size w w1) := BB0.out.trans (hg.below.mono BB0.out.size)
  clear hg BB0 hlt0
  go_wp2_with fail
  refine (HK2.out _).mono ?_
  rintro e w2 ⟨rfl, hg⟩
  replace p0 := cell_later hg.below p0
  replace p1 := cell_later hg.below p1
  replace q0 := cell_later hg.below q0
  replace q1 := cell_later hg.below q1
  replace z0 := cell_later hg.below z0
  replace z1 := cell_later hg.below z1
  replace zf0 := hg.frozen hlt1 zf0
  replace zf1 := hg.frozen hlt1 zf1
  have hlt2 : w.heap.size + 1 + 1 < w2.heap.size := Nat.lt_of_lt_of_le hlt1 hg.size
  have BB2 : Hid (Below w.heap.size w w2) := BB1.out.trans (hg.below.mono BB1.out.size)
  clear hg BB1 hlt1
  go_wp2_with fail
  refine (HK3.out _).mono ?_
  rintro e w3 ⟨rfl, hg⟩
  replace p0 := cell_later hg.below p0
  replace p1 := cell_later hg.below p1
  replace q0 := cell_later hg.below q0
  replace q1 := cell_later hg.below q1
  replace z0 := cell_later hg.below z0
  replace z1 := cell_later hg.below z1
  replace zf0 := hg.frozen hlt2 zf0
  replace zf1 := hg.frozen hlt2 zf1
  have hlt3 : w.heap.size + 1 + 1 < w3.heap.size := Nat.lt_of_lt_of_le hlt2 hg.size
  have BB3 : Hid (Below w.heap.size w w3) := BB2.out.trans (hg.below.mono BB2.out.size)
  clear hg BB2 hlt2
  go_wp2_with fail
  refine (HK4.out _).mono ?_
  rintro e w4 ⟨rfl, hg⟩
  replace p0 := cell_later hg.below p0
  replace p1 := cell_later hg.below p1
  replace q0 := cell_later hg.below q0
  replace q1 := cell_later hg.below q1
  replace z0 := cell_later hg.below z0
  replace z1 := cell_later hg.below z1
  replace zf0 := hg.frozen hlt3 zf0
  replace zf1 := hg.frozen hlt3 zf1
  have hlt4 : w.heap.size + 1 + 1 < w4.heap.size := Nat.lt_of_lt_of_le hlt3 hg.size
  have BB4 : Hid (Below w.heap.size w w4) := BB3.out.trans (hg.below.mono BB3.out.size)
  clear hg BB3 hlt3
  go_wp2_with fail
  refine bodyPost_ret (v := .tuple #[.agg #[.int .i64 0, .int .i64 0], .bool false]) (by simp [results, Tryd.results22, go_sem, *]) rfl ⟨rfl, ?_⟩
  exact (BB4.out.setCell (by show _ ≤ w.heap.size + 1 + 1; omega) _).setCell (by show _ ≤ w.heap.size + 1 + 1; omega) _

set_option maxHeartbeats 2000000 in
set_option maxRecDepth 100000 in
theorem rc_101 (f u f' u' E E' : Int) (w : World)
    (K1 : ∀ W, Calls Tryd.prog 24 #[.agg #[.int .i64 f, .int .i64 u]] W fun e w' => e = .returned (.bool true) ∧ Gr W w')
    (K2 : ∀ W, Calls Tryd.prog 24 #[.agg #[.int .i64 f', .int .i64 u']] W fun e w' => e = .returned (.bool true) ∧ Gr W w')
    (K3 : ∀ W, Calls Tryd.prog 37 #[.agg #[.int .i64 f, .int .i64 u]] W fun e w' => e = .returned (.int .i64 E) ∧ Gr W w')
    (K4 : ∀ W, Calls Tryd.prog 37 #[.agg #[.int .i64 f', .int .i64 u']] W fun e w' => e = .returned (.int .i64 E') ∧ Gr W w')
    (d1 : f < f') (d2 : E ≤ E') (d3 : f' < E)
    : Calls Tryd.prog 22 #[.agg #[.int .i64 f, .int .i64 u], .agg #[.int .i64 f', .int .i64 u']] w fun e w' => e = .returned (.tuple #[.agg #[.int .i64 f', .int .i64 (unt E)], .bool true]) ∧ Below w.heap.size w w' := by
  have HK1 := Lib.hid K1
  have HK2 := Lib.hid K2
  have HK3 := Lib.hid K3
  have HK4 := Lib.hid K4
  clear K1 K2 K3 K4
  have p0 : (((w.alloc (.cells #[.int .i64 f, .int .i64 u] 41)).alloc (.cells #[.int .i64 f', .int .i64 u'] 41)).alloc (.cells #[.int .i64 0, .int .i64 0] 41)).cell? ⟨w.heap.size, 0, none⟩ = some (.int .i64 f) := Lib.cell?_alloc_some _ (Lib.cell?_alloc_some _ (by simp))
  have p1 : (((w.alloc (.cells #[.int .i64 f, .int .i64 u] 41)).alloc (.cells #[.int .i64 f', .int .i64 u'] 41)).alloc (.cells #[.int .i64 0, .int .i64 0] 41)).cell? ⟨w.heap.size, 1, none⟩ = some (.int .i64 u) := Lib.cell?_alloc_some _ (Lib.cell?_alloc_some _ (by simp))
  have q0 : (((w.alloc (.cells #[.int .i64 f, .int .i64 u] 41)).alloc (.cells #[.int .i64 f', .int .i64 u'] 41)).alloc (.cells #[.int .i64 0, .int .i64 0] 41)).cell? ⟨w.heap.size + 1, 0, none⟩ = some (.int .i64 f') := Lib.cell?_alloc_some _ (by simp)
  have q1 : (((w.alloc (.cells #[.int .i64 f, .int .i64 u] 41)).alloc (.cells #[.int .i64 f', .int .i64 u'] 41)).alloc (.cells #[.int .i64 0, .int .i64 0] 41)).cell? ⟨w.heap.size + 1, 1, none⟩ = some (.int .i64 u') := Lib.cell?_alloc_some _ (by simp)
  have z0 : (((w.alloc (.cells #[.int .i64 f, .int .i64 u] 41)).alloc (.cells #[.int .i64 f', .int .i64 u'] 41)).alloc (.cells #[.int .i64 0, .int .i64 0] 41)).cell? ⟨w.heap.size + 1 + 1, 0, none⟩ = some (.int .i64 0) := by rw [World.cell?_alloc_at _ _ _ _ (by simp)]; rfl
  have z1 : (((w.alloc (.cells #[.int .i64 f, .int .i64 u] 41)).alloc (.cells #[.int .i64 f', .int .i64 u'] 41)).alloc (.cells #[.int .i64 0, .int .i64 0] 41)).cell? ⟨w.heap.size + 1 + 1, 1, none⟩ = some (.int .i64 0) := by rw [World.cell?_alloc_at _ _ _ _ (by simp)]; rfl
  have zf0 : (((w.alloc (.cells #[.int .i64 f, .int .i64 u] 41)).alloc (.cells #[.int .i64 f', .int .i64 u'] 41)).alloc (.cells #[.int .i64 0, .int .i64 0] 41)).frozen? ⟨w.heap.size + 1 + 1, 0, none⟩ = false := World.frozen?_alloc_at _ _ _ _ (by simp)
  have zf1 : (((w.alloc (.cells #[.int .i64 f, .int .i64 u] 41)).alloc (.cells #[.int .i64 f', .int .i64 u'] 41)).alloc (.cells #[.int .i64 0, .int .i64 0] 41)).frozen? ⟨w.heap.size + 1 + 1, 1, none⟩ = false := World.frozen?_alloc_at _ _ _ _ (by simp)
  have hs0 : (((w.alloc (.cells #[.int .i64 f, .int .i64 u] 41)).alloc (.cells #[.int .i64 f', .int .i64 u'] 41)).alloc (.cells #[.int .i64 0, .int .i64 0] 41)).heap.size = w.heap.size + 1 + 1 + 1 := by simp
  have BB0 : Hid (Below w.heap.size w (((w.alloc (.cells #[.int .i64 f, .int .i64 u] 41)).alloc (.cells #[.int .i64 f', .int .i64 u'] 41)).alloc (.cells #[.int .i64 0, .int .i64 0] 41))) := (((Gr.one w _).alloc _).alloc _).below
  have HS0 := Lib.hid hs0
  clear hs0
  go_enter Tryd.func22, Tryd.ntmps22
  go_wp2_with fail
  refine (HK1.out _).mono ?_
  rintro e w1 ⟨rfl, hg⟩
  replace p0 := cell_later hg.below p0
  replace p1 := cell_later hg.below p1
  replace q0 := cell_later hg.below q0
  replace q1 := cell_later hg.below q1
  replace z0 := cell_later hg.below z0
  replace z1 := cell_later hg.below z1
  have hlt0 : w.heap.size + 1 + 1 < (((w.alloc (.cells #[.int .i64 f, .int .i64 u] 41)).alloc (.cells #[.int .i64 f', .int .i64 u'] 41)).alloc (.cells #[.int .i64 0, .int .i64 0] 41)).heap.size := by rw [HS0.out]; omega
  replace zf0 := hg.frozen hlt0 zf0
  replace zf1 := hg.frozen hlt0 zf1
  have hlt1 : w.heap.size + 1 + 1 < w1.heap.size := Nat.lt_of_lt_of_le hlt0 hg.size
  have BB1 : Hid (Below w.heap.size w w1) := BB0.out.trans (hg.below.mono BB0.out.size)
  clear hg BB0 hlt0
  go_wp2_with fail
  refine (HK2.out _).mono ?_
  rintro e w2 ⟨rfl, hg⟩
  replace p0 := cell_later hg.below p0
  replace p1 := cell_later hg.below p1
  replace q0 := cell_later hg.below q0
  replace q1 := cell_later hg.below q1
  replace z0 := cell_later hg.below z0
  replace z1 := cell_later hg.below z1
  replace zf0 := hg.frozen hlt1 zf0
  replace zf1 := hg.frozen hlt1 zf1
  have hlt2 : w.heap.size + 1 + 1 < w2.heap.size := Nat.lt_of_lt_of_le hlt1 hg.size
  have BB2 : Hid (Below w.heap.size w w2) := BB1.out.trans (hg.below.mono BB1.out.size)
  clear hg BB1 hlt1
  go_wp2_with fail
  refine (HK3.out _).mono ?_
  rintro e w3 ⟨rfl, hg⟩
  replace p0 := cell_later hg.below p0
  replace p1 := cell_later hg.below p1
  replace q0 := cell_later hg.below q0
  replace q1 := cell_later hg.below q1
  replace z0 := cell_later hg.below z0
  replace z1 := cell_later hg.below z1
  replace zf0 := hg.frozen hlt2 zf0
  replace zf1 := hg.frozen hlt2 zf1
  have hlt3 : w.heap.size + 1 + 1 < w3.heap.size := Nat.lt_of_lt_of_le hlt2 hg.size
  have BB3 : Hid (Below w.heap.size w w3) := BB2.out.trans (hg.below.mono BB2.out.size)
  clear hg BB2 hlt2
  go_wp2_with fail
  refine (HK4.out _).mono ?_
  rintro e w4 ⟨rfl, hg⟩
  replace p0 := cell_later hg.below p0
  replace p1 := cell_later hg.below p1
  replace q0 := cell_later hg.below q0
  replace q1 := cell_later hg.below q1
  replace z0 := cell_later hg.below z0
  replace z1 := cell_later hg.below z1
  replace zf0 := hg.frozen hlt3 zf0
  replace zf1 := hg.frozen hlt3 zf1
  have hlt4 : w.heap.size + 1 + 1 < w4.heap.size := Nat.lt_of_lt_of_le hlt3 hg.size
  have BB4 : Hid (Below w.heap.size w w4) := BB3.out.trans (hg.below.mono BB3.out.size)
  clear hg BB3 hlt3
  go_wp2_with fail
  refine (until_any _ _).mono ?_
  rintro e w' ⟨rfl, rfl⟩
  go_wp2_with fail
  refine bodyPost_ret (v := .tuple #[.agg #[.int .i64 f', .int .i64 (unt E)], .bool true]) (by simp [results, Tryd.results22, go_sem, *]) rfl ⟨rfl, ?_⟩
  exact (BB4.out.setCell (by show _ ≤ w.heap.size + 1 + 1; omega) _).setCell (by show _ ≤ w.heap.size + 1 + 1; omega) _

set_option maxHeartbeats 2000000 in
set_option maxRecDepth 100000 in
theorem rc_110 (f u f' u' E E' : Int) (w : World)
    (K1 : ∀ W, Calls Tryd.prog 24 #[.agg #[.int .i64 f, .int .i64 u]] W fun e w' => e = .returned (.bool true) ∧ Gr W w')
    (K2 : ∀ W, Calls Tryd.prog 24 #[.agg #[.int .i64 f', .int .i64 u']] W fun e w' => e = .returned (.bool true) ∧ Gr W w')
    (K3 : ∀ W, Calls Tryd.prog 37 #[.agg #[.int .i64 f, .int .i64 u]] W fun e w' => e = .returned (.int .i64 E) ∧ Gr W w')
    (K4 : ∀ W, Calls Tryd.prog 37 #[.agg #[.int .i64 f', .int .i64 u']] W fun e w' => e = .returned (.int .i64 E') ∧ Gr W w')
    (d1 : f < f') (d2 : E' < E) (d3 : f' ≥ E')
    : Calls Tryd.prog 22 #[.agg #[.int .i64 f, .int .i64 u], .agg #[.int .i64 f', .int .i64 u']] w fun e w' => e = .returned (.tuple #[.agg #[.int .i64 0, .int .i64 0], .bool false]) ∧ Below w.heap.size w w' := by
  have HK1 := Lib.hid K1
  have HK2 := Lib.hid K2
  have HK3 := Lib.hid K3
  have HK4 := Lib.hid K4
  clear K1 K2 K3 K4
  have p0 : (((w.alloc (.cells #[.int .i64 f, .int .i64 u] 41)).alloc (.cells #[.int .i64 f', .int .i64 u'] 41)).alloc (.cells #[.int .i64 0, .int .i64 0] 41)).cell? ⟨w.heap.size, 0, none⟩ = some (.int .i64 f) := Lib.cell?_alloc_some _ (Lib.cell?_alloc_some _ (by simp))
  have p1 : (((w.alloc (.cells #[.int .i64 f, .int .i64 u] 41)).alloc (.cells #[.int .i64 f', .int .i64 u'] 41)).alloc (.cells #[.int .i64 0, .int .i64 0] 41)).cell? ⟨w.heap.size, 1, none⟩ = some (.int .i64 u) := Lib.cell?_alloc_some _ (Lib.cell?_alloc_some _ (by simp))
  have q0 : (((w.alloc (.cells #[.int .i64 f, .int .i64 u] 41)).alloc (.cells #[.int .i64 f', .int .i64 u'] 41)).alloc (.cells #[.int .i64 0, .int .i64 0] 41)).cell? ⟨w.heap.size + 1, 0, none⟩ = some (.int .i64 f') := Lib.cell?_alloc_some _ (by simp)
  have q1 : (((w.alloc (.cells #[.int .i64 f, .int .i64 u] 41)).alloc (.cells #[.int .i64 f', .int .i64 u'] 41)).alloc (.cells #[.int .i64 0, .int .i64 0] 41)).cell? ⟨w.heap.size + 1, 1, none⟩ = some (.int .i64 u') := Lib.cell?_alloc_some _ (by simp)
  have z0 : (((w.alloc (.cells #[.int .i64 f, .int .i64 u] 41)).alloc (.cells #[.int .i64 f', .int .i64 u'] 41)).alloc (.cells #[.int .i64 0, .int .i64 0] 41)).cell? ⟨w.heap.size + 1 + 1, 0, none⟩ = some (.int .i64 0) := by rw [World.cell?_alloc_at _ _ _ _ (by simp)]; rfl
  have z1 : (((w.alloc (.cells #[.int .i64 f, .int .i64 u] 41)).alloc (.cells #[.int .i64 f', .int .i64 u'] 41)).alloc (.cells #[.int .i64 0, .int .i64 0] 41)).cell? ⟨w.heap.size + 1 + 1, 1, none⟩ = some (.int .i64 0) := by rw [World.cell?_alloc_at _ _ _ _ (by simp)]; rfl
  have zf0 : (((w.alloc (.cells #[.int .i64 f, .int .i64 u] 41)).alloc (.cells #[.int .i64 f', .int .i64 u'] 41)).alloc (.cells #[.int .i64 0, .int .i64 0] 41)).frozen? ⟨w.heap.size + 1 + 1, 0, none⟩ = false := World.frozen?_alloc_at _ _ _ _ (by simp)
  have zf1 : (((w.alloc (.cells #[.int .i64 f, .int .i64 u] 41)).alloc (.cells #[.int .i64 f', .int .i64 u'] 41)).alloc (.cells #[.int .i64 0, .int .i64 0] 41)).frozen? ⟨w.heap.size + 1 + 1, 1, none⟩ = false := World.frozen?_alloc_at _ _ _ _ (by simp)
  have hs0 : (((w.alloc (.cells #[.int .i64 f, .int .i64 u] 41)).alloc (.cells #[.int .i64 f', .int .i64 u'] 41)).alloc (.cells #[.int .i64 0, .int .i64 0] 41)).heap.size = w.heap.size + 1 + 1 + 1 := by simp
  have BB0 : Hid (Below w.heap.size w (((w.alloc (.cells #[.int .i64 f, .int .i64 u] 41)).alloc (.cells #[.int .i64 f', .int .i64 u'] 41)).alloc (.cells #[.int .i64 0, .int .i64 0] 41))) := (((Gr.one w _).alloc _).alloc _).below
  have HS0 := Lib.hid hs0
  clear hs0
  go_enter Tryd.func22, Tryd.ntmps22
  go_wp2_with fail
  refine (HK1.out _).mono ?_
  rintro e w1 ⟨rfl, hg⟩
  replace p0 := cell_later hg.below p0
  replace p1 := cell_later hg.below p1
  replace q0 := cell_later hg.below q0
  replace q1 := cell_later hg.below q1
  replace z0 := cell_later hg.below z0
  replace z1 := cell_later hg.below z1
  have hlt0 : w.heap.size + 1 + 1 < (((w.alloc (.cells #[.int .i64 f, .int .i64 u] 41)).alloc (.cells #[.int .i64 f', .int .i64 u'] 41)).alloc (.cells #[.int .i64 0, .int .i64 0] 41)).heap.size := by rw [HS0.out]; omega
  replace zf0 := hg.frozen hlt0 zf0
  replace zf1 := hg.frozen hlt0 zf1
  have hlt1 : w.heap.size + 1 + 1 < w1.heap.size := Nat.lt_of_lt_of_le hlt0 hg.size
  have BB1 : Hid (Below w.heap.size w w1) := BB0.out.trans (hg.below.mono BB0.out.size)
  clear hg BB0 hlt0
  go_wp2_with fail
  refine (HK2.out _).mono ?_
  rintro e w2 ⟨rfl, hg⟩
  replace p0 := cell_later hg.below p0
  replace p1 := cell_later hg.below p1
  replace q0 := cell_later hg.below q0
  replace q1 := cell_later hg.below q1
  replace z0 := cell_later hg.below z0
  replace z1 := cell_later hg.below z1
  replace zf0 := hg.frozen hlt1 zf0
  replace zf1 := hg.frozen hlt1 zf1
  have hlt2 : w.heap.size + 1 + 1 < w2.heap.size := Nat.lt_of_lt_of_le hlt1 hg.size
  have BB2 : Hid (Below w.heap.size w w2) := BB1.out.trans (hg.below.mono BB1.out.size)
  clear hg BB1 hlt1
  go_wp2_with fail
  refine (HK3.out _).mono ?_
  rintro e w3 ⟨rfl, hg⟩
  replace p0 := cell_later hg.below p0
  replace p1 := cell_later hg.below p1
  replace q0 := cell_later hg.below q0
  replace q1 := cell_later hg.below q1
  replace z0 := cell_later hg.below z0
  replace z1 := cell_later hg.below z1
  replace zf0 := hg.frozen hlt2 zf0
  replace zf1 := hg.frozen hlt2 zf1
  have hlt3 : w.heap.size + 1 + 1 < w3.heap.size := Nat.lt_of_lt_of_le hlt2 hg.size
  have BB3 : Hid (Below w.heap.size w w3) := BB2.out.trans (hg.below.mono BB2.out.size)
  clear hg BB2 hlt2
  go_wp2_with fail
  refine (HK4.out _).mono ?_
  rintro e w4 ⟨rfl, hg⟩
  replace p0 := cell_later hg.below p0
  replace p1 := cell_later hg.below p1
  replace q0 := cell_later hg.below q0
  replace q1 := cell_later hg.below q1
  replace z0 := cell_later hg.below z0
  replace z1 := cell_later hg.below z1
  replace zf0 := hg.frozen hlt3 zf0
  replace zf1 := hg.frozen hlt3 zf1
  have hlt4 : w.heap.size + 1 + 1 < w4.heap.size := Nat.lt_of_lt_of_le hlt3 hg.size
  have BB4 : Hid (Below w.heap.size w w4) := BB3.out.trans (hg.below.mono BB3.out.size)
  clear hg BB3 hlt3
  go_wp2_with fail
  refine (HK4.out _).mono ?_
  rintro e w5 ⟨rfl, hg⟩
  replace p0 := cell_later hg.below p0
  replace p1 := cell_later hg.below p1
  replace q0 := cell_later hg.below q0
  replace q1 := cell_later hg.below q1
  replace z0 := cell_later hg.below z0
  replace z1 := cell_later hg.below z1
  replace zf0 := hg.frozen hlt4 zf0
  replace zf1 := hg.frozen hlt4 zf1
  have hlt5 : w.heap.size + 1 + 1 < w5.heap.size := Nat.lt_of_lt_of_le hlt4 hg.size
  have BB5 : Hid (Below w.heap.size w w5) := BB4.out.trans (hg.below.mono BB4.out.size)
  clear hg BB4 hlt4
  go_wp2_with fail
  refine bodyPost_ret (v := .tuple #[.agg #[.int .i64 0, .int .i64 0], .bool false]) (by simp [results, Tryd.results22, go_sem, *]) rfl ⟨rfl, ?_⟩
  exact (BB5.out.setCell (by show _ ≤ w.heap.size + 1 + 1; omega) _).setCell (by show _ ≤ w.heap.size + 1 + 1; omega) _

set_option maxHeartbeats 2000000 in
set_option maxRecDepth 100000 in
theorem rc_111 (f u f' u' E E' : Int) (w : World)
    (K1 : ∀ W, Calls Tryd.prog 24 #[.agg #[.int .i64 f, .int .i64 u]] W fun e w' => e = .returned (.bool true) ∧ Gr W w')
    (K2 : ∀ W, Calls Tryd.prog 24 #[.agg #[.int .i64 f', .int .i64 u']] W fun e w' => e = .returned (.bool true) ∧ Gr W w')
    (K3 : ∀ W, Calls Tryd.prog 37 #[.agg #[.int .i64 f, .int .i64 u]] W fun e w' => e = .returned (.int .i64 E) ∧ Gr W w')
    (K4 : ∀ W, Calls Tryd.prog 37 #[.agg #[.int .i64 f', .int .i64 u']] W fun e w' => e = .returned (.int .i64 E') ∧ Gr W w')
    (d1 : f < f') (d2 : E' < E) (d3 : f' < E')
    : Calls Tryd.prog 22 #[.agg #[.int .i64 f, .int .i64 u], .agg #[.int .i64 f', .int .i64 u']] w fun e w' => e = .returned (.tuple #[.agg #[.int .i64 f', .int .i64 (unt E')], .bool true]) ∧ Below w.heap.size w w' := by
  have HK1 := Lib.hid K1
  have HK2 := Lib.hid K2
  have HK3 := Lib.hid K3
  have HK4 := Lib.hid K4
  clear K1 K2 K3 K4
  have p0 : (((w.alloc (.cells #[.int .i64 f, .int .i64 u] 41)).alloc (.cells #[.int .i64 f', .int .i64 u'] 41)).alloc (.cells #[.int .i64 0, .int .i64 0] 41)).cell? ⟨w.heap.size, 0, none⟩ = some (.int .i64 f) := Lib.cell?_alloc_some _ (Lib.cell?_alloc_some _ (by simp))
  have p1 : (((w.alloc (.cells #[.int .i64 f, .int .i64 u] 41)).alloc (.cells #[.int .i64 f', .int .i64 u'] 41)).alloc (.cells #[.int .i64 0, .int .i64 0] 41)).cell? ⟨w.heap.size, 1, none⟩ = some (.int .i64 u) := Lib.cell?_alloc_some _ (Lib.cell?_alloc_some _ (by simp))
  have q0 : (((w.alloc (.cells #[.int .i64 f, .int .i64 u] 41)).alloc (.cells #[.int .i64 f', .int .i64 u'] 41)).alloc (.cells #[.int .i64 0, .int .i64 0] 41)).cell? ⟨w.heap.size + 1, 0, none⟩ = some (.int .i64 f') := Lib.cell?_alloc_some _ (by simp)
  have q1 : (((w.alloc (.cells #[.int .i64 f, .int .i64 u] 41)).alloc (.cells #[.int .i64 f', .int .i64 u'] 41)).alloc (.cells #[.int .i64 0, .int .i64 0] 41)).cell? ⟨w.heap.size + 1, 1, none⟩ = some (.int .i64 u') := Lib.cell?_alloc_some _ (by simp)
  have z0 : (((w.alloc (.cells #[.int .i64 f, .int .i64 u] 41)).alloc (.cells #[.int .i64 f', .int .i64 u'] 41)).alloc (.cells #[.int .i64 0, .int .i64 0] 41)).cell? ⟨w.heap.size + 1 + 1, 0, none⟩ = some (.int .i64 0) := by rw [World.cell?_alloc_at _ _ _ _ (by simp)]; rfl
  have z1 : (((w.alloc (.cells #[.int .i64 f, .int .i64 u] 41)).alloc (.cells #[.int .i64 f', .int .i64 u'] 41)).alloc (.cells #[.int .i64 0, .int .i64 0] 41)).cell? ⟨w.heap.size + 1 + 1, 1, none⟩ = some (.int .i64 0) := by rw [World.cell?_alloc_at _ _ _ _ (by simp)]; rfl
  have zf0 : (((w.alloc (.cells #[.int .i64 f, .int .i64 u] 41)).alloc (.cells #[.int .i64 f', .int .i64 u'] 41)).alloc (.cells #[.int .i64 0, .int .i64 0] 41)).frozen? ⟨w.heap.size + 1 + 1, 0, none⟩ = false := World.frozen?_alloc_at _ _ _ _ (by simp)
  have zf1 : (((w.alloc (.cells #[.int .i64 f, .int .i64 u] 41)).alloc (.cells #[.int .i64 f', .int .i64 u'] 41)).alloc (.cells #[.int .i64 0, .int .i64 0] 41)).frozen? ⟨w.heap.size + 1 + 1, 1, none⟩ = false := World.frozen?_alloc_at _ _ _ _ (by simp)
  have hs0 : (((w.alloc (.cells #[.int .i64 f, .int .i64 u] 41)).alloc (.cells #[.int .i64 f', .int .i64 u'] 41)).alloc (.cells #[.int .i64 0, .int .i64 0] 41)).heap.size = w.heap.size + 1 + 1 + 1 := by simp
  have BB0 : Hid (Below w.heap.size w (((w.alloc (.cells #[.int .i64 f, .int .i64 u] 41)).alloc (.cells #[.int .i64 f', .int .i64 u'] 41)).alloc (.cells #[.int .i64 0, .int .i64 0] 41))) := (((Gr.one w _).alloc _).alloc _).below
  have HS0 := Lib.hid hs0
  clear hs0
  go_enter Tryd.func22, Tryd.ntmps22
  go_wp2_with fail
  refine (HK1.out _).mono ?_
  rintro e w1 ⟨rfl, hg⟩
  replace p0 := cell_later hg.below p0
  replace p1 := cell_later hg.below p1
  replace q0 := cell_later hg.below q0
  replace q1 := cell_later hg.below q1
  replace z0 := cell_later hg.below z0
  replace z1 := cell_later hg.below z1
  have hlt0 : w.heap.size + 1 + 1 < (((w.alloc (.cells #[.int .i64 f, .int .i64 u] 41)).alloc (.cells #[.int .i64 f', .int .i64 u'] 41)).alloc (.cells #[.int .i64 0, .int .i64 0] 41)).heap.size := by rw [HS0.out]; omega
  replace zf0 := hg.frozen hlt0 zf0
  replace zf1 := hg.frozen hlt0 zf1
  have hlt1 : w.heap.size + 1 + 1 < w1.heap.size := Nat.lt_of_lt_of_le hlt0 hg.size
  have BB1 : Hid (Below w.heap.size w w1) := BB0.out.trans (hg.below.mono BB0.out.size)
  clear hg BB0 hlt0
  go_wp2_with fail
  refine (HK2.out _).mono ?_
  rintro e w2 ⟨rfl, hg⟩
  replace p0 := cell_later hg.below p0
  replace p1 := cell_later hg.below p1
  replace q0 := cell_later hg.below q0
  replace q1 := cell_later hg.below q1
  replace z0 := cell_later hg.below z0
  replace z1 := cell_later hg.below z1
  replace zf0 := hg.frozen hlt1 zf0
  replace zf1 := hg.frozen hlt1 zf1
  have hlt2 : w.heap.size + 1 + 1 < w2.heap.size := Nat.lt_of_lt_of_le hlt1 hg.size
  have BB2 : Hid (Below w.heap.size w w2) := BB1.out.trans (hg.below.mono BB1.out.size)
  clear hg BB1 hlt1
  go_wp2_with fail
  refine (HK3.out _).mono ?_
  rintro e w3 ⟨rfl, hg⟩
  replace p0 := cell_later hg.below p0
  replace p1 := cell_later hg.below p1
  replace q0 := cell_later hg.below q0
  replace q1 := cell_later hg.below q1
  replace z0 := cell_later hg.below z0
  replace z1 := cell_later hg.below z1
  replace zf0 := hg.frozen hlt2 zf0
  replace zf1 := hg.frozen hlt2 zf1
  have hlt3 : w.heap.size + 1 + 1 < w3.heap.size := Nat.lt_of_lt_of_le hlt2 hg.size
  have BB3 : Hid (Below w.heap.size w w3) := BB2.out.trans (hg.below.mono BB2.out.size)
  clear hg BB2 hlt2
  go_wp2_with fail
  refine (HK4.out _).mono ?_
  rintro e w4 ⟨rfl, hg⟩
  replace p0 := cell_later hg.below p0
  replace p1 := cell_later hg.below p1
  replace q0 := cell_later hg.below q0
  replace q1 := cell_later hg.below q1
  replace z0 := cell_later hg.below z0
  replace z1 := cell_later hg.below z1
  replace zf0 := hg.frozen hlt3 zf0
  replace zf1 := hg.frozen hlt3 zf1
  have hlt4 : w.heap.size + 1 + 1 < w4.heap.size := Nat.lt_of_lt_of_le hlt3 hg.size
  have BB4 : Hid (Below w.heap.size w w4) := BB3.out.trans (hg.below.mono BB3.out.size)
  clear hg BB3 hlt3
  go_wp2_with fail
  refine (HK4.out _).mono ?_
  rintro e w5 ⟨rfl, hg⟩
  replace p0 := cell_later hg.below p0
  replace p1 := cell_later hg.below p1
  replace q0 := cell_later hg.below q0
  replace q1 := cell_later hg.below q1
  replace z0 := cell_later hg.below z0
  replace z1 := cell_later hg.below z1
  replace zf0 := hg.frozen hlt4 zf0
  replace zf1 := hg.frozen hlt4 zf1
  have hlt5 : w.heap.size + 1 + 1 < w5.heap.size := Nat.lt_of_lt_of_le hlt4 hg.size
  have BB5 : Hid (Below w.heap.size w w5) := BB4.out.trans (hg.below.mono BB4.out.size)
  clear hg BB4 hlt4
  go_wp2_with fail
  refine (until_any _ _).mono ?_
  rintro e w' ⟨rfl, rfl⟩
  go_wp2_with fail
  refine bodyPost_ret (v := .tuple #[.agg #[.int .i64 f', .int .i64 (unt E')], .bool true]) (by simp [results, Tryd.results22, go_sem, *]) rfl ⟨rfl, ?_⟩
  exact (BB5.out.setCell (by show _ ≤ w.heap.size + 1 + 1; omega) _).setCell (by show _ ≤ w.heap.size + 1 + 1; omega) _

theorem cm_yes (p q : Int × Int) (hp : prp p = true) (hq : prp q = true) (F T : Int) (hF : F = max p.1 q.1) (hT : T = min (en p) (en q)) (h : F < T) : cmP p q = (F, unt T) ∧ cmB p q = true := by
  subst hF hT
  have hB : cmB p q = true := by unfold cmB; rw [hp, hq, decide_eq_true h]; rfl
  exact ⟨by unfold cmP; rw [if_pos hB]; rfl, hB⟩
theorem cm_none (p q : Int × Int) (h : prp p = false ∨ prp q = false ∨ min (en p) (en q) ≤ max p.1 q.1) : cmP p q = (0, 0) ∧ cmB p q = false := by
  have hB : cmB p q = false := by
    unfold cmB
    rcases h with h | h | h
    · rw [h]; rfl
    · rw [h, Bool.and_false]; rfl
    · rw [decide_eq_false (by omega), Bool.and_false]
  exact ⟨by unfold cmP; rw [hB]; rfl, hB⟩
theorem rcommon_any (f u f' u' : Int) (w : World) :
    Calls Tryd.prog 22 #[.agg #[.int .i64 f, .int .i64 u], .agg #[.int .i64 f', .int .i64 u']] w fun e w' => e = .returned (.tuple #[.agg #[.int .i64 (cmP (f, u) (f', u')).1, .int .i64 (cmP (f, u) (f', u')).2], .bool (cmB (f, u) (f', u'))]) ∧ Below w.heap.size w w' := by
  have K1 := fun W => rproper_any f u W
  have K2 := fun W => rproper_any f' u' W
  cases hp : prp (f, u) with
  | false =>
    obtain ⟨e1, e2⟩ := cm_none (f, u) (f', u') (Or.inl hp)
    rw [hp] at K1
    rw [e1, e2]
    exact rc_f f u f' u' w K1
  | true =>
    rw [hp] at K1
    cases hq : prp (f', u') with
    | false =>
      obtain ⟨e1, e2⟩ := cm_none (f, u) (f', u') (Or.inr (Or.inl hq))
      rw [hq] at K2
      rw [e1, e2]
      exact rc_tf f u f' u' w K1 K2
    | true =>
      rw [hq] at K2
      have K3 := fun W => rend_any f u W hp
      have K4 := fun W => rend_any f' u' W hq
      rcases Int.lt_or_le f f' with c1 | c1 <;> rcases Int.lt_or_le (en (f', u')) (en (f, u)) with c2 | c2
      · rcases Int.lt_or_le f' (en (f', u')) with c3 | c3
        · obtain ⟨e1, e2⟩ := cm_yes (f, u) (f', u') hp hq (f') (en (f', u')) (by dsimp only; omega) (by omega) c3
          rw [e1, e2]
          exact rc_111 f u f' u' _ _ w K1 K2 K3 K4 c1 c2 c3
        · obtain ⟨e1, e2⟩ := cm_none (f, u) (f', u') (Or.inr (Or.inr (by dsimp only; omega)))
          rw [e1, e2]
          exact rc_110 f u f' u' _ _ w K1 K2 K3 K4 c1 c2 c3
      · rcases Int.lt_or_le f' (en (f, u)) with c3 | c3
        · obtain ⟨e1, e2⟩ := cm_yes (f, u) (f', u') hp hq (f') (en (f, u)) (by dsimp only; omega) (by omega) c3
          rw [e1, e2]
          exact rc_101 f u f' u' _ _ w K1 K2 K3 K4 c1 c2 c3
        · obtain ⟨e1, e2⟩ := cm_none (f, u) (f', u') (Or.inr (Or.inr (by dsimp only; omega)))
          rw [e1, e2]
          exact rc_100 f u f' u' _ _ w K1 K2 K3 K4 c1 c2 c3
      · rcases Int.lt_or_le f (en (f', u')) with c3 | c3
        · obtain ⟨e1, e2⟩ := cm_yes (f, u) (f', u') hp hq (f) (en (f', u')) (by dsimp only; omega) (by omega) c3
          rw [e1, e2]
          exact rc_011 f u f' u' _ _ w K1 K2 K3 K4 c1 c2 c3
        · obtain ⟨e1, e2⟩ := cm_none (f, u) (f', u') (Or.inr (Or.inr (by dsimp only; omega)))
          rw [e1, e2]
          exact rc_010 f u f' u' _ _ w K1 K2 K3 K4 c1 c2 c3
      · rcases Int.lt_or_le f (en (f, u)) with c3 | c3
        · obtain ⟨e1, e2⟩ := cm_yes (f, u) (f', u') hp hq (f) (en (f, u)) (by dsimp only; omega) (by omega) c3
          rw [e1, e2]
          exact rc_001 f u f' u' _ _ w K1 K2 K3 K4 c1 c2 c3
        · obtain ⟨e1, e2⟩ := cm_none (f, u) (f', u') (Or.inr (Or.inr (by dsimp only; omega)))
          rw [e1, e2]
          exact rc_000 f u f' u' _ _ w K1 K2 K3 K4 c1 c2 c3
end Go.Proofs.YtjebbmnjegndkaaDoor
