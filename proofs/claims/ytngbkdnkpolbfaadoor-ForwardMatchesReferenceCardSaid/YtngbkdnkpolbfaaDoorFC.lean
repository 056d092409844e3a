/- The contracts of package date's functions on single periods. Under no condition. -/
import Derived.Test.YtngbkdnkpolbfaaDoorFB
import Derived.Test.YtngbkdnkpolbfaaDoorUn
namespace Go.Proofs.YtngbkdnkpolbfaaDoor
open Go.RowKit

set_option maxHeartbeats 400000 in
theorem isDay_yes (n : Int) (w : World) (h0 : 0 ≤ n) (h1 : n ≤ 100000) :
    Calls Tryd.prog 41 #[.int .i64 n] w fun e w' => e = .returned (.bool true) ∧ w = w' := by
  go_enter Tryd.func41, Tryd.ntmps41
  go_wp2
  go_ret
  exact ⟨rfl, rfl⟩
set_option maxHeartbeats 400000 in
theorem isDay_no (n : Int) (w : World) (h : n < 0 ∨ 100000 < n) :
    Calls Tryd.prog 41 #[.int .i64 n] w fun e w' => e = .returned (.bool false) ∧ w = w' := by
  rcases h with h | h
  · go_enter Tryd.func41, Tryd.ntmps41
    go_wp2
    go_ret
    exact ⟨rfl, rfl⟩
  · have h0 : 0 ≤ n := by omega
    have hb : decide (n ≤ 100000) = false := by simp; omega
    go_enter Tryd.func41, Tryd.ntmps41
    go_wp2
    go_ret
    exact ⟨rfl, rfl⟩

set_option maxHeartbeats 400000 in
theorem proper_any (f u : Int) (w : World) :
    Calls Tryd.prog 40 #[.agg #[.int .i64 f, .int .i64 u]] w fun e w' => e = .returned (.bool (prp (f, u))) ∧ Gr w w' := by
  by_cases hf : 0 ≤ f ∧ f ≤ 100000
  · obtain ⟨f0, f1⟩ := hf
    by_cases hu : u = -1
    · have H := Lib.hid (show prp (f, u) = true by rw [prp_iff]; dsimp only; omega)
      have b : (u == -1) = true := by simp [hu]
      clear hu
      go_enter Tryd.func40, Tryd.ntmps40
      go_wp2_with fail
      refine (isDay_yes _ _ f0 f1).mono ?_
      rintro e w' ⟨rfl, rfl⟩
      go_wp2_with fail
      go_ret
      exact ⟨by rw [H.out]; rfl, Gr.one _ _⟩
    · have b : (u == -1) = false := by simp [hu]
      by_cases hd : 0 ≤ u ∧ u ≤ 100000
      · obtain ⟨u0, u1⟩ := hd
        by_cases hlt : f < u
        · have H := Lib.hid (show prp (f, u) = true by rw [prp_iff]; dsimp only; omega)
          clear hu
          go_enter Tryd.func40, Tryd.ntmps40
          go_wp2_with fail
          refine (isDay_yes _ _ f0 f1).mono ?_
          rintro e w' ⟨rfl, rfl⟩
          go_wp2_with fail
          refine (isDay_yes _ _ u0 u1).mono ?_
          rintro e w' ⟨rfl, rfl⟩
          go_wp2_with fail
          go_ret
          exact ⟨by rw [H.out]; rfl, Gr.one _ _⟩
        · have H := Lib.hid (show prp (f, u) = false by rw [← Bool.not_eq_true, prp_iff]; dsimp only; omega)
          have bl : decide (f < u) = false := by simp; omega
          clear hu
          go_enter Tryd.func40, Tryd.ntmps40
          go_wp2_with fail
          refine (isDay_yes _ _ f0 f1).mono ?_
          rintro e w' ⟨rfl, rfl⟩
          go_wp2_with fail
          refine (isDay_yes _ _ u0 u1).mono ?_
          rintro e w' ⟨rfl, rfl⟩
          go_wp2_with fail
          go_ret
          exact ⟨by rw [H.out]; rfl, Gr.one _ _⟩
      · have H := Lib.hid (show prp (f, u) = false by rw [← Bool.not_eq_true, prp_iff]; dsimp only; omega)
        have hd' : u < 0 ∨ 100000 < u := by omega
        clear hu hd
        go_enter Tryd.func40, Tryd.ntmps40
        go_wp2_with fail
        refine (isDay_yes _ _ f0 f1).mono ?_
        rintro e w' ⟨rfl, rfl⟩
        go_wp2_with fail
        refine (isDay_no _ _ hd').mono ?_
        rintro e w' ⟨rfl, rfl⟩
        go_wp2_with fail
        go_ret
        exact ⟨by rw [H.out]; rfl, Gr.one _ _⟩
  · have H := Lib.hid (show prp (f, u) = false by rw [← Bool.not_eq_true, prp_iff]; dsimp only; omega)
    have hf' : f < 0 ∨ 100000 < f := by omega
    clear hf
    go_enter Tryd.func40, Tryd.ntmps40
    go_wp2_with fail
    refine (isDay_no _ _ hf').mono ?_
    rintro e w' ⟨rfl, rfl⟩
    go_wp2_with fail
    go_ret
    exact ⟨by rw [H.out]; rfl, Gr.one _ _⟩

set_option maxHeartbeats 400000 in
theorem end_any (f u : Int) (w : World) :
    Calls Tryd.prog 42 #[.agg #[.int .i64 f, .int .i64 u]] w fun e w' => e = .returned (.int .i64 (en (f, u))) ∧ Gr w w' := by
  by_cases hu : u < 0
  · have H := Lib.hid (show en (f, u) = 100001 by unfold en; rw [if_pos hu])
    go_enter Tryd.func42, Tryd.ntmps42
    go_wp2
    go_ret
    exact ⟨by rw [H.out]; rfl, Gr.one _ _⟩
  · have H := Lib.hid (show en (f, u) = u by unfold en; rw [if_neg hu])
    go_enter Tryd.func42, Tryd.ntmps42
    go_wp2
    go_ret
    exact ⟨by rw [H.out]; rfl, Gr.one _ _⟩


theorem Gr.cell {w w' : World} (h : Gr w w') {b o : Nat} {v : Value} (hb : b < w.heap.size) (hc : w.cell? ⟨b, o, none⟩ = some v) : w'.cell? ⟨b, o, none⟩ = some v := by
  rw [h.below.cell (p := ⟨b, o, none⟩) hb]; exact hc
theorem Gr.box {w w' : World} {a b : Value} {T : TypeId} (h : Gr (w.alloc (.cells #[a, b] T)) w') : w'.cell? ⟨w.heap.size, 0, none⟩ = some a ∧ w'.cell? ⟨w.heap.size, 1, none⟩ = some b :=
  ⟨h.cell (by simp) (by simp), h.cell (by simp) (by simp)⟩

theorem cov_no (f u d : Int) (h : prp (f, u) = false) : cov (f, u) d = false := by unfold cov; rw [h, Bool.false_and]
theorem cov_out (f u d : Int) (h : d < 0 ∨ 100000 < d) : cov (f, u) d = false := by
  unfold cov; rw [show decide (0 ≤ d ∧ d ≤ 100000 ∧ (f, u).1 ≤ d ∧ d < en (f, u)) = false by rw [decide_eq_false_iff_not]; omega, Bool.and_false]
theorem cov_yes (f u d : Int) (h : prp (f, u) = true) : cov (f, u) d = decide (f ≤ d ∧ d < en (f, u)) := by
  rw [Bool.eq_iff_iff, cov_iff _ h, decide_eq_true_iff]

set_option maxHeartbeats 1000000 in
theorem covers_any (f u d : Int) (w : World) :
    Calls Tryd.prog 22 #[.agg #[.int .i64 f, .int .i64 u], .int .i64 d] w fun e w' => e = .returned (.bool (cov (f, u) d)) ∧ Gr w w' := by
  have C1 := Lib.hid (fun W => proper_any f u W)
  cases hp : prp (f, u) with
  | false =>
    have H := Lib.hid (cov_no f u d hp)
    rw [hp] at C1
    clear hp
    go_enter Tryd.func22, Tryd.ntmps22
    go_wp2_with fail
    refine (C1.out _).mono ?_
    rintro e w1 ⟨rfl, hg⟩
    have HG := Lib.hid ((Gr.one _ _).trans hg)
    clear hg
    go_wp2_with fail
    go_ret
    exact ⟨by rw [H.out]; rfl, HG.out⟩
  | true =>
    rw [hp] at C1
    by_cases hd : 0 ≤ d ∧ d ≤ 100000
    · obtain ⟨d0, d1⟩ := hd
      have H := Lib.hid (cov_yes f u d hp)
      have C2 := Lib.hid (fun W => end_any f u W)
      clear hp
      generalize en (f, u) = E at *
      generalize cov (f, u) d = r at *
      by_cases c1 : f ≤ d
      · by_cases c2 : d < E
        all_goals
          go_enter Tryd.func22, Tryd.ntmps22
          go_wp2_with fail
          refine (C1.out _).mono ?_
          rintro e w1 ⟨rfl, hg⟩
          obtain ⟨x0, x1⟩ := hg.box
          have HG := Lib.hid ((Gr.one _ _).trans hg)
          clear hg
          go_wp2_with fail
          refine (isDay_yes _ _ d0 d1).mono ?_
          rintro e w' ⟨rfl, rfl⟩
          go_wp2_with fail
          refine (C2.out _).mono ?_
          rintro e w2 ⟨rfl, hg2⟩
          have HG2 := Lib.hid (HG.out.trans hg2)
          clear hg2
          go_wp2_with fail
          go_ret
          exact ⟨by rw [H.out]; simp [c1, c2], HG2.out⟩
      · have c1' : decide (f ≤ d) = false := by simpa using c1
        go_enter Tryd.func22, Tryd.ntmps22
        go_wp2_with fail
        refine (C1.out _).mono ?_
        rintro e w1 ⟨rfl, hg⟩
        obtain ⟨x0, x1⟩ := hg.box
        have HG := Lib.hid ((Gr.one _ _).trans hg)
        clear hg
        go_wp2_with fail
        refine (isDay_yes _ _ d0 d1).mono ?_
        rintro e w' ⟨rfl, rfl⟩
        go_wp2_with fail
        go_ret
        exact ⟨by rw [H.out, decide_eq_false (by omega)]; rfl, HG.out⟩
    · have H := Lib.hid (cov_out f u d (by omega))
      clear hp
      go_enter Tryd.func22, Tryd.ntmps22
      go_wp2_with fail
      refine (C1.out _).mono ?_
      rintro e w1 ⟨rfl, hg⟩
      have HG := Lib.hid ((Gr.one _ _).trans hg)
      clear hg
      go_wp2_with fail
      refine (isDay_no d _ (by omega)).mono ?_
      rintro e w' ⟨rfl, rfl⟩
      go_wp2_with fail
      go_ret
      exact ⟨by rw [H.out]; rfl, HG.out⟩

end Go.Proofs.YtngbkdnkpolbfaaDoor
