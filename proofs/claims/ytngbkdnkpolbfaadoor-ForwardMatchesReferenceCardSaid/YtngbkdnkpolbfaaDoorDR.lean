/- The contracts of the reference's functions on single periods. Under no condition. -/
import Derived.Test.YtngbkdnkpolbfaaDoorFC
namespace Go.Proofs.YtngbkdnkpolbfaaDoor
open Go.RowKit

set_option maxHeartbeats 400000 in
theorem is_yes (n : Int) (w : World) (h0 : 0 ≤ n) (h1 : n ≤ 100000) :
    Calls Tryd.prog 32 #[.int .i64 n] w fun e w' => e = .returned (.bool true) ∧ w = w' := by
  go_enter Tryd.func32, Tryd.ntmps32
  go_wp2
  go_ret
  exact ⟨rfl, rfl⟩
set_option maxHeartbeats 400000 in
theorem is_no (n : Int) (w : World) (h : n < 0 ∨ 100000 < n) :
    Calls Tryd.prog 32 #[.int .i64 n] w fun e w' => e = .returned (.bool false) ∧ w = w' := by
  rcases h with h | h
  · go_enter Tryd.func32, Tryd.ntmps32
    go_wp2
    go_ret
    exact ⟨rfl, rfl⟩
  · have h0 : 0 ≤ n := by omega
    have hb : decide (n ≤ 100000) = false := by simp; omega
    go_enter Tryd.func32, Tryd.ntmps32
    go_wp2
    go_ret
    exact ⟨rfl, rfl⟩

set_option maxHeartbeats 400000 in
theorem rproper_any (f u : Int) (w : World) :
    Calls Tryd.prog 50 #[.agg #[.int .i64 f, .int .i64 u]] w fun e w' => e = .returned (.bool (prp (f, u))) ∧ Gr w w' := by
  by_cases hf : 0 ≤ f ∧ f ≤ 100000
  · obtain ⟨f0, f1⟩ := hf
    by_cases hu : u = -1
    · have H := Lib.hid (show prp (f, u) = true by rw [prp_iff]; dsimp only; omega)
      have b : (u == -1) = true := by simp [hu]
      clear hu
      go_enter Tryd.func50, Tryd.ntmps50
      go_wp2_with fail
      refine (is_yes _ _ f0 f1).mono ?_
      rintro e w' ⟨rfl, rfl⟩
      go_wp2_with fail
      go_ret
      exact ⟨by rw [H.out]; rfl, Gr.one _ _⟩
    · have b : (u == -1) = false := by simp [hu]
      by_cases hd : 0 ≤ u ∧ u ≤ 100000
      · obtain ⟨u0, u1⟩ := hd
        by_cases hlt : f < u
        · have H := Lib.hid (show prp (f, u) = true by rw [prp_iff]; dsimp only; omega)
          clear hu
          go_enter Tryd.func50, Tryd.ntmps50
          go_wp2_with fail
          refine (is_yes _ _ f0 f1).mono ?_
          rintro e w' ⟨rfl, rfl⟩
          go_wp2_with fail
          refine (is_yes _ _ u0 u1).mono ?_
          rintro e w' ⟨rfl, rfl⟩
          go_wp2_with fail
          go_ret
          exact ⟨by rw [H.out]; rfl, Gr.one _ _⟩
        · have H := Lib.hid (show prp (f, u) = false by rw [← Bool.not_eq_true, prp_iff]; dsimp only; omega)
          have bl : decide (f < u) = false := by simp; omega
          clear hu
          go_enter Tryd.func50, Tryd.ntmps50
          go_wp2_with fail
          refine (is_yes _ _ f0 f1).mono ?_
          rintro e w' ⟨rfl, rfl⟩
          go_wp2_with fail
          refine (is_yes _ _ u0 u1).mono ?_
          rintro e w' ⟨rfl, rfl⟩
          go_wp2_with fail
          go_ret
          exact ⟨by rw [H.out]; rfl, Gr.one _ _⟩
      · have H := Lib.hid (show prp (f, u) = false by rw [← Bool.not_eq_true, prp_iff]; dsimp only; omega)
        have hd' : u < 0 ∨ 100000 < u := by omega
        clear hu hd
        go_enter Tryd.func50, Tryd.ntmps50
        go_wp2_with fail
        refine (is_yes _ _ f0 f1).mono ?_
        rintro e w' ⟨rfl, rfl⟩
        go_wp2_with fail
        refine (is_no _ _ hd').mono ?_
        rintro e w' ⟨rfl, rfl⟩
        go_wp2_with fail
        go_ret
        exact ⟨by rw [H.out]; rfl, Gr.one _ _⟩
  · have H := Lib.hid (show prp (f, u) = false by rw [← Bool.not_eq_true, prp_iff]; dsimp only; omega)
    have hf' : f < 0 ∨ 100000 < f := by omega
    clear hf
    go_enter Tryd.func50, Tryd.ntmps50
    go_wp2_with fail
    refine (is_no _ _ hf').mono ?_
    rintro e w' ⟨rfl, rfl⟩
    go_wp2_with fail
    go_ret
    exact ⟨by rw [H.out]; rfl, Gr.one _ _⟩

theorem cov_ref (f u d : Int) (h : prp (f, u) = true) (d1 : d ≤ 100000) : cov (f, u) d = (decide (f ≤ d) && (u == -1 || decide (d < u))) := by
  rw [Bool.eq_iff_iff, cov_iff _ h]
  have hp := (prp_iff _).1 h
  rcases en_of (f, u) with ⟨_, e⟩ | ⟨_, e⟩ <;> simp only [Bool.and_eq_true, Bool.or_eq_true, decide_eq_true_eq, beq_iff_eq] <;> dsimp only at * <;> omega

set_option maxHeartbeats 1000000 in
theorem rcovers_any (f u d : Int) (w : World) :
    Calls Tryd.prog 43 #[.agg #[.int .i64 f, .int .i64 u], .int .i64 d] w fun e w' => e = .returned (.bool (cov (f, u) d)) ∧ Gr w w' := by
  have C1 := Lib.hid (fun W => rproper_any f u W)
  cases hp : prp (f, u) with
  | false =>
    have H := Lib.hid (cov_no f u d hp)
    rw [hp] at C1
    clear hp
    go_enter Tryd.func43, Tryd.ntmps43
    go_wp2_with fail
    refine (C1.out _).mono ?_
    rintro e w1 ⟨rfl, hg⟩
    have HG := Lib.hid ((Gr.one _ _).trans hg)
    clear hg
    go_wp2_with fail
    go_ret
    exact ⟨by rw [H.out]; rfl, HG.out⟩
  | true =>
    rw [hp] at C1
    by_cases hd : 0 ≤ d ∧ d ≤ 100000
    · obtain ⟨d0, d1⟩ := hd
      have H := Lib.hid (cov_ref f u d hp d1)
      clear hp
      generalize cov (f, u) d = r at *
      by_cases c1 : f ≤ d
      · by_cases c2 : u = -1
        · have b2 : (u == -1) = true := by simp [c2]
          have H2 := Lib.hid (show r = true by rw [H.out, b2]; simp [c1])
          clear c2 H
          go_enter Tryd.func43, Tryd.ntmps43
          go_wp2_with fail
          refine (C1.out _).mono ?_
          rintro e w1 ⟨rfl, hg⟩
          obtain ⟨x0, x1⟩ := hg.box
          have HG := Lib.hid ((Gr.one _ _).trans hg)
          clear hg
          go_wp2_with fail
          refine (is_yes _ _ d0 d1).mono ?_
          rintro e w' ⟨rfl, rfl⟩
          go_wp2_with fail
          go_ret
          exact ⟨by rw [H2.out]; rfl, HG.out⟩
        · have b2 : (u == -1) = false := by simp [c2]
          by_cases c3 : d < u
          · have H2 := Lib.hid (show r = true by rw [H.out, b2]; simp [c1, c3])
            clear c2 H
            go_enter Tryd.func43, Tryd.ntmps43
            go_wp2_with fail
            refine (C1.out _).mono ?_
            rintro e w1 ⟨rfl, hg⟩
            obtain ⟨x0, x1⟩ := hg.box
            have HG := Lib.hid ((Gr.one _ _).trans hg)
            clear hg
            go_wp2_with fail
            refine (is_yes _ _ d0 d1).mono ?_
            rintro e w' ⟨rfl, rfl⟩
            go_wp2_with fail
            go_ret
            exact ⟨by rw [H2.out]; rfl, HG.out⟩
          · have H2 := Lib.hid (show r = false by rw [H.out, b2]; simp; omega)
            have b3 : decide (d < u) = false := by simpa using c3
            clear c2 H
            go_enter Tryd.func43, Tryd.ntmps43
            go_wp2_with fail
            refine (C1.out _).mono ?_
            rintro e w1 ⟨rfl, hg⟩
            obtain ⟨x0, x1⟩ := hg.box
            have HG := Lib.hid ((Gr.one _ _).trans hg)
            clear hg
            go_wp2_with fail
            refine (is_yes _ _ d0 d1).mono ?_
            rintro e w' ⟨rfl, rfl⟩
            go_wp2_with fail
            go_ret
            exact ⟨by rw [H2.out]; rfl, HG.out⟩
      · have c1' : decide (f ≤ d) = false := by simpa using c1
        have H2 := Lib.hid (show r = false by rw [H.out, c1']; rfl)
        clear H
        go_enter Tryd.func43, Tryd.ntmps43
        go_wp2_with fail
        refine (C1.out _).mono ?_
        rintro e w1 ⟨rfl, hg⟩
        obtain ⟨x0, x1⟩ := hg.box
        have HG := Lib.hid ((Gr.one _ _).trans hg)
        clear hg
        go_wp2_with fail
        refine (is_yes _ _ d0 d1).mono ?_
        rintro e w' ⟨rfl, rfl⟩
        go_wp2_with fail
        go_ret
        exact ⟨by rw [H2.out]; rfl, HG.out⟩
    · have H := Lib.hid (cov_out f u d (by omega))
      clear hp
      go_enter Tryd.func43, Tryd.ntmps43
      go_wp2_with fail
      refine (C1.out _).mono ?_
      rintro e w1 ⟨rfl, hg⟩
      have HG := Lib.hid ((Gr.one _ _).trans hg)
      clear hg
      go_wp2_with fail
      refine (is_no d _ (by omega)).mono ?_
      rintro e w' ⟨rfl, rfl⟩
      go_wp2_with fail
      go_ret
      exact ⟨by rw [H.out]; rfl, HG.out⟩
end Go.Proofs.YtngbkdnkpolbfaaDoor
