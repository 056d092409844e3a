/- The contract of the disk's count. Under no condition but sizes. -/
import Derived.Test.YtihoomlaggihlaaGreatDoorJI
namespace Go.Proofs.YtihoomlaggihlaaGreatDoor
open Go.RowKit

set_option maxHeartbeats 4000000 in
set_option maxRecDepth 100000 in
theorem count_now (w : World) (F : Nat → Prop) (d n : Nat) (D : PD) (a b c : Int) (h : DAt w F d n D) (ha : D.alarm = some (a, b, c)) (hz : ¬ 0 < a) (hm : D.pend.length ≤ 100000) :
    Calls Tryz.prog 99 #[.pointer (some ⟨d, 0, none⟩)] w fun e w' => e = .returned (.int .i64 21) ∧ DAt w' F d n (D.fail b c) ∧ Out F w w' := by
  have HF := Lib.hid (fun (W : World) (h : DAt W F d n D) => fail_any W F d n D b c h hm)
  have HD := Lib.hid h
  obtain ⟨sb, qv, av, h1, h2, h3, h4, h5, h6⟩ := h.mem
  rw [ha] at h4
  obtain ⟨g, rfl, hg, hh⟩ := h4
  obtain ⟨hd, _, _, _, c3, _⟩ := h1.cells
  have a0 : w.cell? ⟨g, 0, none⟩ = some (.int .i64 a) := cell_at hh rfl
  have a1 : w.cell? ⟨g, 1, none⟩ = some (.int .i64 b) := cell_at hh rfl
  have a2 : w.cell? ⟨g, 2, none⟩ = some (.int .i64 c) := cell_at hh rfl
  clear h h1 h2 h3 h5 h6 hh ha hm
  go_enter Tryz.func99, Tryz.ntmps99
  go_wp2_with fail
  refine wp_region_still_tail 15 (by decide) (by kernel_rfl) ?_
  simp only [List.take_succ_cons, List.take_zero, List.drop_succ_cons, List.drop_zero]
  change wpStill _ _ (World.drew w) _ _ _
  repeat still_step
  refine wpStill_nil ?_
  change wpList _ _ _ _ _ (World.drew w)
  go_wp2_with fail
  refine (HF.out _ (HD.out.below (Gr.drewn w).below)).mono ?_
  rintro e w2 ⟨rfl, hb, ho⟩
  go_wp2_with fail
  go_ret
  exact ⟨rfl, hb, (Out.of_below (F := F) (Gr.drewn w).below).trans ho (fun _ e => Or.inl e)⟩
theorem count_any (w : World) (F : Nat → Prop) (d n : Nat) (D : PD) (h : DAt w F d n D) (hm : D.pend.length ≤ 100000) :
    Calls Tryz.prog 99 #[.pointer (some ⟨d, 0, none⟩)] w fun e w' => e = .returned (.int .i64 D.count.2) ∧ DAt w' F d n D.count.1 ∧ Out F w w' := by
  obtain ⟨sb, qv, av, h1, h2, h3, h4, h5, h6⟩ := h.mem
  cases hal : D.alarm with
  | none =>
    rw [hal] at h4
    unfold AlAt at h4
    simp only at h4
    subst h4
    have e : D.count = (D, 0) := by unfold PD.count; rw [hal]
    rw [e]
    refine (count_nil w d sb n qv D.off h1).mono ?_
    rintro e w' ⟨rfl, rfl⟩
    exact ⟨rfl, h, Out.refl F w⟩
  | some t =>
    obtain ⟨a, b, c⟩ := t
    have hv := h.vd.al a b c hal
    by_cases ha : 0 < a
    · have e : D.count = ({ D with alarm := some (a - 1, b, c) }, 0) := by unfold PD.count; rw [hal]; simp [ha]
      rw [e]
      rw [hal] at h4
      obtain ⟨g, rfl, hg, hh⟩ := h4
      refine (count_later w d sb n g qv D.off a b c h1 hh ha (by omega)).mono ?_
      rintro e w' ⟨rfl, rfl⟩
      have o : Out F w (w.setCell ⟨g, 0, none⟩ (.int .i64 (a - 1))) := Out.set w (a := ⟨g, 0, none⟩) _ hg
      have o1 : Out (· = g) w (w.setCell ⟨g, 0, none⟩ (.int .i64 (a - 1))) := Out.set w (a := ⟨g, 0, none⟩) _ rfl
      have hq : ∀ k, qv.ownBlock = some k → ¬ k = g := fun k hk e => by
        subst e
        rcases h3.2 with ⟨rfl, _⟩ | ⟨q, cap, cur, rfl, _, hq, _⟩
        · simp [Value.ownBlock] at hk
        · simp [Value.ownBlock] at hk
          subst hk
          exact tag_ne hq hh (by decide) rfl
      refine ⟨rfl, ⟨⟨h.vd.sec, h.vd.whole, ?_⟩, h.n4, fun k hk => Nat.lt_of_lt_of_le (h.lt k hk) o.size, h.fd, sb, qv, _, o1.heap h1 (tag_ne h1 hh (by decide)), o1.heap h2 (tag_ne h2 hh (by decide)), o1.own h3 hq, ⟨g, rfl, hg, ?_⟩, h5, h6⟩, o⟩
      · intro a' b' c' e
        simp at e
        omega
      · have k := heap_setCell_same w g 0 _ _ (.int .i64 (a - 1)) hh
        simpa using k
    · have e : D.count = (D.fail b c, 21) := by unfold PD.count; rw [hal]; simp [ha]
      rw [e]
      exact count_now w F d n D a b c h hal ha hm
end Go.Proofs.YtihoomlaggihlaaGreatDoor
