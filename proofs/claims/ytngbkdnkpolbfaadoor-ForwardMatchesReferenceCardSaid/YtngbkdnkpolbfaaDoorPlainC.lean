/- Plain facts on the calendar: Make and Split back and forth; months later. No program in sight. Under no condition. -/
import Derived.Test.YtngbkdnkpolbfaaDoorPlainB
namespace Go.Proofs.YtngbkdnkpolbfaaDoor
theorem num_ge (y m d : Int) (h1 : 1 ≤ m) (h2 : m ≤ 12) (h3 : 1 ≤ d) : num y 1 1 ≤ num y m d := by
  rw [num_eq, num_eq]
  have e1 : yr y 1 = y - 1 := rfl
  have e2 : dm (mr 1) = 306 := by decide
  rw [e1, e2]
  by_cases hm : m ≤ 2
  · have e3 : yr y m = y - 1 := by unfold yr; rw [if_pos hm]
    have e4 : 306 ≤ dm (mr m) := by
      have : m = 1 ∨ m = 2 := by omega
      rcases this with rfl | rfl <;> decide
    rw [e3]; omega
  · have e3 : yr y m = y := by unfold yr; rw [if_neg hm]
    have hs := dy_succ (y - 1)
    rw [show y - 1 + 1 = y by omega] at hs
    have e4 : 0 ≤ dm (mr m) := by unfold dm mr; omega
    rw [e3]
    split at hs <;> omega
theorem num_low (y : Int) (h : 1800 ≤ y) : 0 ≤ num y 1 1 := by
  rw [num_eq]
  have e1 : yr y 1 = y - 1 := rfl
  have e2 : dm (mr 1) = 306 := by decide
  have := dy_mono 1799 (y - 1) (by omega)
  have e : dy 1799 = 657071 := by decide
  rw [e1, e2]; omega
/-- the three outcomes of Make -/
theorem mk_ok (y m d : Int) (h : mkE y m d = 0) : mkV y m d = num y m d ∧ 1800 ≤ y ∧ y ≤ 2073 ∧ 1 ≤ m ∧ m ≤ 12 ∧ 1 ≤ d ∧ d ≤ len y m ∧ 0 ≤ num y m d ∧ num y m d ≤ 100000 := by
  refine ⟨by unfold mkV; rw [if_pos h], ?_⟩
  unfold mkE okY okD okN at h
  split at h
  · cases h
  · rename_i a
    split at h
    · cases h
    · rename_i b
      split at h
      · cases h
      · rename_i c
        simp at a b c
        omega
theorem mk_no (y m d : Int) (h : mkE y m d ≠ 0) : mkV y m d = 0 ∧ (mkE y m d = 1 ∨ mkE y m d = 9) := by
  refine ⟨by unfold mkV; rw [if_neg h], ?_⟩
  unfold mkE at *
  split
  · exact Or.inr rfl
  · split
    · exact Or.inl rfl
    · split
      · exact Or.inr rfl
      · rename_i a b c
        rw [if_neg a, if_neg b, if_neg c] at h
        exact absurd rfl h
theorem mk_mk (y m d : Int) (y1 : 1800 ≤ y) (y2 : y ≤ 2073) (m1 : 1 ≤ m) (m2 : m ≤ 12) (d1 : 1 ≤ d) (d2 : d ≤ len y m) (n2 : num y m d ≤ 100000) : mkE y m d = 0 ∧ mkV y m d = num y m d := by
  have n1 := num_ge y m d m1 m2 d1
  have n0 := num_low y y1
  have hE : mkE y m d = 0 := by
    unfold mkE okY okD okN
    rw [if_neg (by simp; omega), if_neg (by simp; omega), if_neg (by simp; omega)]
  exact ⟨hE, by unfold mkV; rw [if_pos hE]⟩
theorem mk_split (n : Int) (h0 : 0 ≤ n) (h1 : n ≤ 100000) : mkE (spY n) (spM n) (spD n) = 0 ∧ mkV (spY n) (spM n) (spD n) = n := by
  obtain ⟨a1, a2, a3, a4, a5⟩ := split_ok n
  have ⟨y1, y2⟩ := split_yr n h0 h1
  have := mk_mk _ _ _ y1 y2 a1 a2 a3 a4 (by omega)
  rwa [a5] at this
theorem mk_first (y m d : Int) (h : mkE y m d = 0) : mkE y 1 1 = 0 ∧ mkV y 1 1 = num y 1 1 ∧ num y 1 1 ≤ num y m d := by
  obtain ⟨_, y1, y2, m1, m2, d1, d2, n1, n2⟩ := mk_ok y m d h
  have g := num_ge y m d m1 m2 d1
  have lb := len_bd y 1 (by omega) (by omega)
  have := mk_mk y 1 1 y1 y2 (by omega) (by omega) (by omega) (by omega) (by omega)
  exact ⟨this.1, this.2, g⟩

/-- what Months returns, by the number of the month and the day of the month -/
def toM (k d : Int) : Int := min d (len (k / 12) (k % 12 + 1))
theorem num_late (y m d : Int) (y1 : 2074 ≤ y) (m1 : 1 ≤ m) (m2 : m ≤ 12) (d1 : 1 ≤ d) : 100000 < num y m d := by
  have g := num_ge y m d m1 m2 d1
  have : num 2074 1 1 ≤ num y 1 1 := by
    rw [num_eq, num_eq]
    have e1 : yr y 1 = y - 1 := rfl
    have e2 : yr 2074 1 = 2073 := rfl
    have := dy_mono 2073 (y - 1) (by omega)
    rw [e1, e2]; omega
  have e : num 2074 1 1 = 100077 := by decide
  omega
theorem mk_far (k d : Int) (h : k < 21600 ∨ 24888 ≤ k) : mkE (k / 12) (k % 12 + 1) (toM k d) = 9 ∧ mkV (k / 12) (k % 12 + 1) (toM k d) = 0 := by
  have hE : mkE (k / 12) (k % 12 + 1) (toM k d) = 9 := by
    unfold mkE okY
    rw [if_pos (by simp; omega)]
  exact ⟨hE, by unfold mkV; rw [if_neg (by omega)]⟩
/-- Months, at every number of months -/
theorem mo_eq (n a : Int) (h0 : 0 ≤ n) (h1 : n ≤ 100000) : moV n a = mkV (mk n a / 12) (mk n a % 12 + 1) (toM (mk n a) (spD n)) ∧ moE n a = mkE (mk n a / 12) (mk n a % 12 + 1) (toM (mk n a) (spD n)) := by
  have ⟨y1, y2⟩ := split_yr n h0 h1
  obtain ⟨m1, m2, _⟩ := split_ok n
  unfold moV moE
  by_cases c : a < -3288 ∨ 3288 < a
  · rw [if_pos c, if_pos c]
    have hk : mk n a < 21600 ∨ 24888 ≤ mk n a := by unfold mk; omega
    obtain ⟨e1, e2⟩ := mk_far (mk n a) (spD n) hk
    exact ⟨e2.symm, e1.symm⟩
  · rw [if_neg c, if_neg c]
    exact ⟨rfl, rfl⟩
/-- of a day of a month that is at least 1, Months has no error or ErrRange -/
theorem mo_err (k d : Int) (hd : 1 ≤ d) (h : mkE (k / 12) (k % 12 + 1) (toM k d) ≠ 0) : mkE (k / 12) (k % 12 + 1) (toM k d) = 9 ∧ mkV (k / 12) (k % 12 + 1) (toM k d) = 0 ∧ (k < 21600 ∨ 24885 ≤ k) := by
  have hl := len_bd (k / 12) (k % 12 + 1) (by omega) (by omega)
  have t1 : 1 ≤ toM k d := by unfold toM; omega
  have t2 : toM k d ≤ len (k / 12) (k % 12 + 1) := by unfold toM; omega
  obtain ⟨v, e⟩ := mk_no _ _ _ h
  have e9 : mkE (k / 12) (k % 12 + 1) (toM k d) = 9 := by
    rcases e with e | e
    · exfalso
      unfold mkE okY okD at e
      split at e
      · cases e
      · rename_i c
        rw [if_neg (by simp; omega)] at e
        split at e <;> cases e
    · exact e
  refine ⟨e9, v, ?_⟩
  rcases Int.lt_or_le k 21600 with c | c
  · exact Or.inl c
  · right
    rcases Int.lt_or_le k 24885 with c2 | c2
    · exfalso
      have y1 : 1800 ≤ k / 12 := by omega
      have y2 : k / 12 ≤ 2073 := by omega
      have hn : num (k / 12) (k % 12 + 1) (toM k d) ≤ 100000 := by
        rcases Int.lt_or_le (k / 12) 2073 with c3 | c3
        · have g := num_ge (k / 12 + 1) 1 1 (by omega) (by omega) (by omega)
          have b : num (k / 12) (k % 12 + 1) (toM k d) < num (k / 12 + 1) 1 1 := by
            obtain ⟨b1, b2, b3, b4, b5, b6⟩ := in_year (k / 12) (k % 12 + 1) (toM k d) (by omega) (by omega) t1 t2
            have : num (k / 12) (k % 12 + 1) (toM k d) ≤ num (k / 12) 12 31 := by
              rw [num_eq, num_eq]
              have e1 : yr (k / 12) 12 = k / 12 := by unfold yr; rw [if_neg (by omega)]
              have e2 : dm (mr 12) = 275 := by decide
              rw [e1, e2]
              by_cases hm : k % 12 + 1 ≤ 2
              · have e3 : yr (k / 12) (k % 12 + 1) = k / 12 - 1 := by unfold yr; rw [if_pos hm]
                rw [e3] at b5 ⊢
                rw [show k / 12 - 1 + 1 = k / 12 by omega] at b5
                omega
              · have e3 : yr (k / 12) (k % 12 + 1) = k / 12 := by unfold yr; rw [if_neg hm]
                rw [e3]
                have hr : mr (k % 12 + 1) ≤ 9 := by unfold mr; omega
                have := b4 (by omega)
                have := dm_mono (mr (k % 12 + 1) + 1) 10 (by omega)
                have e4 : dm 10 = 306 := by decide
                omega
            have e5 := num_year (k / 12)
            have e6 : len (k / 12) 12 = 31 := by unfold len; rw [if_neg (by omega)]; rfl
            rw [e6] at e5
            omega
          have : num (k / 12 + 1) 1 1 ≤ num 2073 1 1 := by
            rw [num_eq, num_eq]
            have e1 : yr (k / 12 + 1) 1 = k / 12 := by unfold yr; rw [if_pos (by omega)]; omega
            have e2 : yr 2073 1 = 2072 := rfl
            have := dy_mono (k / 12) 2072 (by omega)
            rw [e1, e2]; omega
          have e : num 2073 1 1 = 99712 := by decide
          omega
        · have ey : k / 12 = 2073 := by omega
          have hm : k % 12 + 1 ≤ 9 := by omega
          rw [ey] at t2 ⊢
          obtain ⟨b1, b2, b3, b4, b5, b6⟩ := in_year 2073 (k % 12 + 1) (toM k d) (by omega) (by omega) t1 t2
          rw [num_eq]
          have e8 : dy 2073 = 757148 := by decide
          by_cases hm2 : k % 12 + 1 ≤ 2
          · have e3 : yr 2073 (k % 12 + 1) = 2072 := by unfold yr; rw [if_pos hm2]; rfl
            rw [e3] at b5 ⊢
            rw [show (2072 : Int) + 1 = 2073 from rfl] at b5
            omega
          · have e3 : yr 2073 (k % 12 + 1) = 2073 := by unfold yr; rw [if_neg hm2]
            have hr : mr (k % 12 + 1) ≤ 6 := by unfold mr; omega
            have := b4 (by omega)
            have := dm_mono (mr (k % 12 + 1) + 1) 7 (by omega)
            have e4 : dm 7 = 214 := by decide
            rw [e3]
            omega
      have := mk_mk (k / 12) (k % 12 + 1) (toM k d) y1 y2 (by omega) (by omega) t1 t2 hn
      omega
    · exact c2
end Go.Proofs.YtngbkdnkpolbfaaDoor
