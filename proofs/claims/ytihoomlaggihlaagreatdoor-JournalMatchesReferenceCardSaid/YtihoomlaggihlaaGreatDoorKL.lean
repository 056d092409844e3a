/- The contracts of Append's closures: they write a row of sectors, or a head. Under the condition that the tables lie in memory as the program lays them. -/
import Derived.Test.YtihoomlaggihlaaGreatDoorKK
namespace Go.Proofs.YtihoomlaggihlaaGreatDoor
open Go.RowKit

set_option maxHeartbeats 4000000 in
set_option maxRecDepth 100000 in
theorem cl_row43 (w : World) (F : Nat → Prop) (jb d n place bj bn bv : Nat) (D : PD) (cs : Array Value) (v : Value) (texts : List (List UInt8)) (h : DAt w F d n D) (hj : w.heap[jb]? = some (.cells cs 53 (0, 0))) (hc : cs[0]? = some (.pointer (some ⟨d, 0, none⟩))) (hF : ¬ F jb) (hv : SR w F v texts) (h64 : ∀ t ∈ texts, t.length = 64) (hp : place + texts.length ≤ n) (hm : D.pend.length ≤ 5000)
    (h1 : w.heap[bj]? = some (.cells #[.pointer (some ⟨jb, 0, none⟩)] 25 (0, 0))) (h2 : w.heap[bn]? = some (.cells #[.int .i64 place] 3 (0, 0))) (h3 : w.heap[bv]? = some (.cells #[v] 26 (0, 0))) :
    Calls Tryz.prog 49 #[.pointer (some ⟨bj, 0, none⟩), .pointer (some ⟨bn, 0, none⟩), .pointer (some ⟨bv, 0, none⟩)] w fun e w' => e = .returned (.int .i64 (D.writes (rowAt place texts)).2) ∧ ∃ F', DAt w' F' d n (D.writes (rowAt place texts)).1 ∧ Stp F w F' w' := by
  have HW := Lib.hid (jwrite_any w F jb d n place D cs v texts h hj hc hF hv h64 hp hm)
  have c1 : w.cell? ⟨bj, 0, none⟩ = some (.pointer (some ⟨jb, 0, none⟩)) := cell_at h1 rfl
  have c2 : w.cell? ⟨bn, 0, none⟩ = some (.int .i64 place) := cell_at h2 rfl
  have c3 : w.cell? ⟨bv, 0, none⟩ = some v := cell_at h3 rfl
  clear h hj hc hF h64 hp hm h1 h2 h3
  obtain ⟨a, c, rfl, _⟩ := hv
  go_enter Tryz.func49, Tryz.ntmps49
  go_wp2_with fail
  refine HW.out.mono ?_
  rintro e w2 ⟨rfl, g⟩
  have G := Lib.hid g
  clear g
  go_wp2_with fail
  go_ret
  exact ⟨rfl, G.out⟩
set_option maxHeartbeats 4000000 in
set_option maxRecDepth 100000 in
theorem cl_row44 (w : World) (F : Nat → Prop) (jb d n place bj bn bv : Nat) (D : PD) (cs : Array Value) (v : Value) (texts : List (List UInt8)) (h : DAt w F d n D) (hj : w.heap[jb]? = some (.cells cs 53 (0, 0))) (hc : cs[0]? = some (.pointer (some ⟨d, 0, none⟩))) (hF : ¬ F jb) (hv : SR w F v texts) (h64 : ∀ t ∈ texts, t.length = 64) (hp : place + texts.length ≤ n) (hm : D.pend.length ≤ 5000)
    (h1 : w.heap[bj]? = some (.cells #[.pointer (some ⟨jb, 0, none⟩)] 25 (0, 0))) (h2 : w.heap[bn]? = some (.cells #[.int .i64 place] 3 (0, 0))) (h3 : w.heap[bv]? = some (.cells #[v] 26 (0, 0))) :
    Calls Tryz.prog 50 #[.pointer (some ⟨bj, 0, none⟩), .pointer (some ⟨bn, 0, none⟩), .pointer (some ⟨bv, 0, none⟩)] w fun e w' => e = .returned (.int .i64 (D.writes (rowAt place texts)).2) ∧ ∃ F', DAt w' F' d n (D.writes (rowAt place texts)).1 ∧ Stp F w F' w' := by
  have HW := Lib.hid (jwrite_any w F jb d n place D cs v texts h hj hc hF hv h64 hp hm)
  have c1 : w.cell? ⟨bj, 0, none⟩ = some (.pointer (some ⟨jb, 0, none⟩)) := cell_at h1 rfl
  have c2 : w.cell? ⟨bn, 0, none⟩ = some (.int .i64 place) := cell_at h2 rfl
  have c3 : w.cell? ⟨bv, 0, none⟩ = some v := cell_at h3 rfl
  clear h hj hc hF h64 hp hm h1 h2 h3
  obtain ⟨a, c, rfl, _⟩ := hv
  go_enter Tryz.func50, Tryz.ntmps50
  go_wp2_with fail
  refine HW.out.mono ?_
  rintro e w2 ⟨rfl, g⟩
  have G := Lib.hid g
  clear g
  go_wp2_with fail
  go_ret
  exact ⟨rfl, G.out⟩
theorem one_write {w : World} {F : Nat → Prop} {jb d n : Nat} {D : PD} {cs : Array Value} (h : DAt w F d n D) (hj : w.heap[jb]? = some (.cells cs 53 (0, 0))) (hc : cs[0]? = some (.pointer (some ⟨d, 0, none⟩))) (hF : ¬ F jb) (hm : D.pend.length ≤ 5000) {W : World} (hB : Below w.heap.size w W) (place : Nat) (t : List UInt8) (ht : t.length = 64) (hp : place + 1 ≤ n) :
    Calls Tryz.prog 41 #[.pointer (some ⟨jb, 0, none⟩), .int .i64 place, .slice (some ⟨W.heap.size, 0, none⟩) 1 1] (W.alloc (.cells #[.string ⟨t.toArray⟩] 9)) fun e w' => e = .returned (.int .i64 (D.writes (rowAt place [t])).2) ∧ ∃ F', DAt w' F' d n (D.writes (rowAt place [t])).1 ∧ Stp F w F' w' := by
  have hA : Below w.heap.size w (W.alloc (.cells #[.string ⟨t.toArray⟩] 9)) := hB.alloc hB.size _
  have o : Out F w (W.alloc (.cells #[.string ⟨t.toArray⟩] 9)) := Out.of_below hA
  have hnF : ¬ F W.heap.size := fun e => by have := h.lt _ e; have := hB.size; omega
  have hs : SR (W.alloc (.cells #[.string ⟨t.toArray⟩] 9)) F (.slice (some ⟨W.heap.size, 0, none⟩) 1 1) [t] := ⟨_, 1, rfl, by simp, fun k hk => by
    obtain rfl : k = 0 := by simpa using hk
    exact ⟨_, _, rfl, hnF, by simp⟩⟩
  refine (jwrite_any _ F jb d n place D cs _ [t] (h.below hA) (o.heap hj hF) hc hF hs (by simpa using ht) (by simpa using hp) hm).mono ?_
  rintro e w' ⟨rfl, F', g1, g2⟩
  exact ⟨rfl, F', g1, (Stp.below hA).trans g2⟩
set_option maxHeartbeats 4000000 in
set_option maxRecDepth 100000 in
theorem cl_head45 (w : World) (F : Nat → Prop) (jb d n nx bj bn : Nat) (D : PD) (cs : Array Value) (h : DAt w F d n D) (hj : w.heap[jb]? = some (.cells cs 53 (0, 0))) (hc : cs[0]? = some (.pointer (some ⟨d, 0, none⟩))) (hF : ¬ F jb) (hFj : ¬ F bj) (hFn : ¬ F bn) (hx : nx < 10 ^ 8) (hn2 : 2 ≤ n) (hL : Laid w) (hm : D.pend.length ≤ 5000)
    (h1 : w.heap[bj]? = some (.cells #[.pointer (some ⟨jb, 0, none⟩)] 25 (0, 0))) (h2 : w.heap[bn]? = some (.cells #[.int .i64 nx] 3 (0, 0))) :
    Calls Tryz.prog 51 #[.pointer (some ⟨bj, 0, none⟩), .pointer (some ⟨bn, 0, none⟩)] w fun e w' => e = .returned (.int .i64 (D.writes (rowAt 1 [headP 1 nx])).2) ∧ ∃ F', DAt w' F' d n (D.writes (rowAt 1 [headP 1 nx])).1 ∧ Stp F w F' w' := by
  have c1 : w.cell? ⟨bj, 0, none⟩ = some (.pointer (some ⟨jb, 0, none⟩)) := cell_at h1 rfl
  have c2 : w.cell? ⟨bn, 0, none⟩ = some (.int .i64 nx) := cell_at h2 rfl
  have hBd : Below w.heap.size w w.drew := (Below.refl _ _).drew
  have HH : Hid (Calls Tryz.prog 39 #[.int .i64 (1 : Int), .int .i64 nx] w.drew fun e w' => e = .returned (.string ⟨(headP 1 nx).toArray⟩) ∧ Below w.drew.heap.size w.drew w') := Lib.hid (head_any' w.drew 1 nx (by decide) hx (hL.keep hBd))
  have HZ1 := Lib.hid (fun (w5 : World) (g : ∃ F', DAt w5 F' d n (D.writes (rowAt 1 [headP 1 nx])).1 ∧ Stp F w F' w5) => (show w5.cell? ⟨bj, 0, none⟩ = some (.pointer (some ⟨jb, 0, none⟩)) from cell_at (g.elim fun _ g => g.2.out.heap h1 hFj) rfl))
  have HZ2 := Lib.hid (fun (w5 : World) (g : ∃ F', DAt w5 F' d n (D.writes (rowAt 1 [headP 1 nx])).1 ∧ Stp F w F' w5) => (show w5.cell? ⟨bn, 0, none⟩ = some (.int .i64 nx) from cell_at (g.elim fun _ g => g.2.out.heap h2 hFn) rfl))
  have HW := Lib.hid (fun (W : World) (hB : Below w.heap.size w W) => one_write h hj hc hF hm hB 1 (headP 1 nx) (head_len _ _) (by omega))
  clear h hj hc hF hm h1 h2 hL hFj hFn
  go_enter Tryz.func51, Tryz.ntmps51
  go_wp2_with fail
  have l1 := cell_lt c1
  have l2 := cell_lt c2
  go_region_held3 (fun w' => w'.cell? ⟨bj, 0, none⟩ = some (.pointer (some ⟨jb, 0, none⟩)) ∧ w'.cell? ⟨bn, 0, none⟩ = some (.int .i64 nx)) (first | exact ⟨c1, c2⟩ | exact ⟨y1, y2⟩ | exact ⟨z1, z2⟩ | (go_keep; done))
    (first
      | (go_at_call_of 39 (Value.int IntKind.i64 (1 : Int)); refine (HH.out).mono ?_; rintro e w4 ⟨rfl, hb⟩; (have hb' := hBd.trans hb); (have HB := Lib.hid hb'); (have y1 := (hb'.cell (p := ⟨bj, 0, none⟩) l1).trans c1); (have y2 := (hb'.cell (p := ⟨bn, 0, none⟩) l2).trans c2);  (have m1 := cell_lt y1); (have m2 := cell_lt y2); clear hb hb')
      | (go_at_call_of 41 (Value.int IntKind.i64 (1 : Int)); refine (HW.out _ HB.out).mono ?_; rintro e w5 ⟨rfl, g⟩; (have G := Lib.hid g); (have z1 : w5.cell? ⟨bj, 0, none⟩ = some (.pointer (some ⟨jb, 0, none⟩)) := HZ1.out w5 g); (have z2 : w5.cell? ⟨bn, 0, none⟩ = some (.int .i64 nx) := HZ2.out w5 g); clear g))
  all_goals (
    go_wp2_with fail
    go_ret
    exact ⟨rfl, G.out⟩)
set_option maxHeartbeats 4000000 in
set_option maxRecDepth 100000 in
theorem cl_head46 (w : World) (F : Nat → Prop) (jb d n nx bj bn : Nat) (D : PD) (cs : Array Value) (h : DAt w F d n D) (hj : w.heap[jb]? = some (.cells cs 53 (0, 0))) (hc : cs[0]? = some (.pointer (some ⟨d, 0, none⟩))) (hF : ¬ F jb) (hFj : ¬ F bj) (hFn : ¬ F bn) (hx : nx < 10 ^ 8) (hn2 : 2 ≤ n) (hL : Laid w) (hm : D.pend.length ≤ 5000)
    (h1 : w.heap[bj]? = some (.cells #[.pointer (some ⟨jb, 0, none⟩)] 25 (0, 0))) (h2 : w.heap[bn]? = some (.cells #[.int .i64 nx] 3 (0, 0))) :
    Calls Tryz.prog 52 #[.pointer (some ⟨bj, 0, none⟩), .pointer (some ⟨bn, 0, none⟩)] w fun e w' => e = .returned (.int .i64 (D.writes (rowAt 0 [headP 0 nx])).2) ∧ ∃ F', DAt w' F' d n (D.writes (rowAt 0 [headP 0 nx])).1 ∧ Stp F w F' w' := by
  have c1 : w.cell? ⟨bj, 0, none⟩ = some (.pointer (some ⟨jb, 0, none⟩)) := cell_at h1 rfl
  have c2 : w.cell? ⟨bn, 0, none⟩ = some (.int .i64 nx) := cell_at h2 rfl
  have hBd : Below w.heap.size w w.drew := (Below.refl _ _).drew
  have HH : Hid (Calls Tryz.prog 39 #[.int .i64 (0 : Int), .int .i64 nx] w.drew fun e w' => e = .returned (.string ⟨(headP 0 nx).toArray⟩) ∧ Below w.drew.heap.size w.drew w') := Lib.hid (head_any' w.drew 0 nx (by decide) hx (hL.keep hBd))
  have HZ1 := Lib.hid (fun (w5 : World) (g : ∃ F', DAt w5 F' d n (D.writes (rowAt 0 [headP 0 nx])).1 ∧ Stp F w F' w5) => (show w5.cell? ⟨bj, 0, none⟩ = some (.pointer (some ⟨jb, 0, none⟩)) from cell_at (g.elim fun _ g => g.2.out.heap h1 hFj) rfl))
  have HZ2 := Lib.hid (fun (w5 : World) (g : ∃ F', DAt w5 F' d n (D.writes (rowAt 0 [headP 0 nx])).1 ∧ Stp F w F' w5) => (show w5.cell? ⟨bn, 0, none⟩ = some (.int .i64 nx) from cell_at (g.elim fun _ g => g.2.out.heap h2 hFn) rfl))
  have HW := Lib.hid (fun (W : World) (hB : Below w.heap.size w W) => one_write h hj hc hF hm hB 0 (headP 0 nx) (head_len _ _) (by omega))
  clear h hj hc hF hm h1 h2 hL hFj hFn
  go_enter Tryz.func52, Tryz.ntmps52
  go_wp2_with fail
  have l1 := cell_lt c1
  have l2 := cell_lt c2
  go_region_held3 (fun w' => w'.cell? ⟨bj, 0, none⟩ = some (.pointer (some ⟨jb, 0, none⟩)) ∧ w'.cell? ⟨bn, 0, none⟩ = some (.int .i64 nx)) (first | exact ⟨c1, c2⟩ | exact ⟨y1, y2⟩ | exact ⟨z1, z2⟩ | (go_keep; done))
    (first
      | (go_at_call_of 39 (Value.int IntKind.i64 (0 : Int)); refine (HH.out).mono ?_; rintro e w4 ⟨rfl, hb⟩; (have hb' := hBd.trans hb); (have HB := Lib.hid hb'); (have y1 := (hb'.cell (p := ⟨bj, 0, none⟩) l1).trans c1); (have y2 := (hb'.cell (p := ⟨bn, 0, none⟩) l2).trans c2);  (have m1 := cell_lt y1); (have m2 := cell_lt y2); clear hb hb')
      | (go_at_call_of 41 (Value.int IntKind.i64 (0 : Int)); refine (HW.out _ HB.out).mono ?_; rintro e w5 ⟨rfl, g⟩; (have G := Lib.hid g); (have z1 : w5.cell? ⟨bj, 0, none⟩ = some (.pointer (some ⟨jb, 0, none⟩)) := HZ1.out w5 g); (have z2 : w5.cell? ⟨bn, 0, none⟩ = some (.int .i64 nx) := HZ2.out w5 g); clear g))
  all_goals (
    go_wp2_with fail
    go_ret
    exact ⟨rfl, G.out⟩)
end Go.Proofs.YtihoomlaggihlaaGreatDoor
