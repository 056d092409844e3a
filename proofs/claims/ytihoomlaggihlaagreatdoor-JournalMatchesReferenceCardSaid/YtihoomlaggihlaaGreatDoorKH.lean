/- The journal in memory; the contracts of Clone, Room and Records. Under no condition but sizes. -/
import Derived.Test.YtihoomlaggihlaaGreatDoorKG
namespace Go.Proofs.YtihoomlaggihlaaGreatDoor
open Go.RowKit

theorem clone_any (w : World) (F : Nat → Prop) (v : Value) (xs : List (List UInt8)) (h : SR w F v xs) (hm : xs.length ≤ 1000000) :
    Calls Tryz.prog 42 #[v] w fun e w' => ∃ g, e = .returned g ∧ w'.ownsRow w.heap.size 9 1 g xs.length (strs xs) ∧ Below w.heap.size w w' := by
  obtain ⟨a, c, rfl, hc, hcs⟩ := h
  rcases a with _ | ⟨b, o, r⟩
  · have hx : xs = [] := by
      rcases Nat.eq_zero_or_pos xs.length with e | e
      · exact List.eq_nil_of_length_eq_zero e
      · obtain ⟨_, _, e1, _⟩ := hcs 0 e
        cases e1
    subst hx
    refine (Tryz.slices_Clone_string_nil _ c w).mono ?_
    rintro e w' ⟨rfl, rfl⟩
    exact ⟨_, rfl, World.ownsRow_nil _ _ _ _, Below.refl _ _⟩
  · by_cases hx : xs = []
    · subst hx
      refine (Tryz.slices_Clone_string_zero ⟨b, o, r⟩ c w).mono ?_
      rintro e w' ⟨v', rfl, h1, _, h3⟩
      exact ⟨v', rfl, h1, h3⟩
    · have hl := List.length_pos_iff.2 hx
      obtain ⟨b', o', e1, _⟩ := hcs 0 hl
      cases e1
      refine (Tryz.slices_Clone_string b o xs.length c (xs.map fun t => ⟨t.toArray⟩) w (by simp) (by omega) (fun j hj => ?_)).mono ?_
      · obtain ⟨b', o', e1, _, e2⟩ := hcs j (by simpa using hj)
        cases e1
        rw [e2]
        simp [List.getD_eq_getElem?_getD, List.getElem?_map, List.getElem?_eq_getElem (show j < xs.length by simpa using hj)]
      · rintro e w' ⟨v', rfl, h1, _, h3⟩
        refine ⟨v', rfl, ?_, h3⟩
        rw [List.take_of_length_le (by simp)] at h1
        rw [List.map_map] at h1
        exact h1
/-- the journal in memory, its blocks in a footprint -/
structure JAt (w : World) (G : Nat → Prop) (jb d n c : Nat) (recs : List (List UInt8)) (brk : Bool) : Prop where
  mem : ∃ rv, w.heap[jb]? = some (.cells #[.pointer (some ⟨d, 0, none⟩), .int .i64 n, .int .i64 c, rv, .bool brk] 53 (0, 0)) ∧ w.ownsRow 0 9 1 rv recs.length (strs recs) ∧ ∀ k, rv.ownBlock = some k → G k
  gj : G jb
  lt : ∀ k, G k → k < w.heap.size
  le : c + 2 ≤ n
  rl : recs.length ≤ 100000
theorem JAt.out {w w' : World} {F G : Nat → Prop} {jb d n c : Nat} {recs : List (List UInt8)} {brk : Bool} (h : JAt w G jb d n c recs brk) (o : Out F w w') (hd : ∀ k, F k → ¬ G k) : JAt w' G jb d n c recs brk := by
  obtain ⟨rv, h1, h2, h3⟩ := h.mem
  exact ⟨⟨rv, o.heap h1 (fun x => hd _ x h.gj), o.own h2 (fun k hk x => hd _ x (h3 k hk)), h3⟩, h.gj, fun k hk => Nat.lt_of_lt_of_le (h.lt k hk) o.size, h.le, h.rl⟩
theorem JAt.below {w w' : World} {G : Nat → Prop} {jb d n c : Nat} {recs : List (List UInt8)} {brk : Bool} (h : JAt w G jb d n c recs brk) (o : Below w.heap.size w w') : JAt w' G jb d n c recs brk := h.out (Out.of_below (F := fun _ => False) o) (fun _ e => e.elim)
theorem JAt.sr {w : World} {G : Nat → Prop} {jb d n c : Nat} {recs : List (List UInt8)} {brk : Bool} (h : JAt w G jb d n c recs brk) : ∃ rv, w.heap[jb]? = some (.cells #[.pointer (some ⟨d, 0, none⟩), .int .i64 n, .int .i64 c, rv, .bool brk] 53 (0, 0)) ∧ SR w (fun _ => False) rv recs := by
  obtain ⟨rv, h1, h2, _⟩ := h.mem
  exact ⟨rv, h1, SR.own h2 (fun _ _ => id)⟩
set_option maxHeartbeats 4000000 in
set_option maxRecDepth 100000 in
theorem room_any (w : World) (G : Nat → Prop) (jb d n c : Nat) (recs : List (List UInt8)) (brk : Bool) (h : JAt w G jb d n c recs brk) (hn : n ≤ 4000) :
    Calls Tryz.prog 14 #[.pointer (some ⟨jb, 0, none⟩)] w fun e w' => e = .returned (.int .i64 ((n - 2 - c : Nat) : Int)) ∧ Below w.heap.size w w' := by
  obtain ⟨rv, h1, _⟩ := h.mem
  have c1 : w.cell? ⟨jb, 1, none⟩ = some (.int .i64 n) := cell_at h1 rfl
  have c2 : w.cell? ⟨jb, 2, none⟩ = some (.int .i64 c) := cell_at h1 rfl
  have hl := h.le
  have hjl := heap_lt h1
  have HE := Lib.hid (show (n : Int) - 2 - (c : Int) = ((n - 2 - c : Nat) : Int) by omega)
  have w1 : IntKind.i64.wrap ((n : Int) - 2) = (n : Int) - 2 := IntWalk.i64_in _ (by omega)
  have w2 : IntKind.i64.wrap ((n : Int) - 2 - (c : Int)) = (n : Int) - 2 - (c : Int) := IntWalk.i64_in _ (by omega)
  clear h h1
  go_enter Tryz.func14, Tryz.ntmps14
  go_wp2_with fail
  go_quiet (fail)
  go_wp2_with fail
  go_ret
  refine ⟨?_, (Gr.drewN w _).below⟩
  rw [← HE.out]; rfl
set_option maxHeartbeats 4000000 in
set_option maxRecDepth 100000 in
theorem room_nil (w : World) : Calls Tryz.prog 14 #[.pointer none] w fun e w' => e = .returned (.int .i64 0) ∧ w = w' := by
  go_enter Tryz.func14, Tryz.ntmps14
  go_wp2_with fail
  go_ret
  exact ⟨rfl, rfl⟩
set_option maxHeartbeats 4000000 in
set_option maxRecDepth 100000 in
theorem records_any (w : World) (G : Nat → Prop) (jb d n c : Nat) (recs : List (List UInt8)) (brk : Bool) (h : JAt w G jb d n c recs brk) :
    Calls Tryz.prog 9 #[.pointer (some ⟨jb, 0, none⟩)] w fun e w' => ∃ g, e = .returned g ∧ w'.ownsRow w.heap.size 9 1 g recs.length (strs recs) ∧ Below w.heap.size w w' := by
  obtain ⟨rv, h1, h2⟩ := h.sr
  have c3 : w.cell? ⟨jb, 3, none⟩ = some rv := cell_at h1 rfl
  have hjl := heap_lt h1
  have HC := Lib.hid (clone_any w (fun _ => False) rv recs h2 (Nat.le_trans h.rl (by decide)))
  clear h h1 h2
  go_enter Tryz.func9, Tryz.ntmps9
  go_wp2_with fail
  refine HC.out.mono ?_
  rintro e w1 ⟨g, rfl, g1, g2⟩
  have G1 := Lib.hid (And.intro g1 g2)
  clear g1 g2 HC
  go_wp2_with fail
  go_ret
  exact ⟨g, rfl, G1.out.1, G1.out.2⟩
end Go.Proofs.YtihoomlaggihlaaGreatDoor
