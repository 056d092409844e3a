/- Plain facts on the calendar: no program in sight. Under no condition. -/
import Derived.WalkKit
namespace Go.Proofs.YtngbkdnkpolbfaaDoor

/-- a leap year -/
def lp (y : Int) : Bool := (y % 4 == 0 && y % 100 != 0) || y % 400 == 0
/-- the table of lengths -/
def tb (k : Nat) : Int := [31, 28, 31, 30, 31, 30, 31, 31, 30, 31, 30, 31].getD k 0
/-- the length of a month -/
def len (y m : Int) : Int := if m = 2 ∧ lp y = true then 29 else tb (m - 1).toNat

theorem tb_bd (k : Nat) (h : k < 12) : 28 ≤ tb k ∧ tb k ≤ 31 := by
  unfold tb; match k, h with
  | 0, _ => decide | 1, _ => decide | 2, _ => decide | 3, _ => decide | 4, _ => decide | 5, _ => decide
  | 6, _ => decide | 7, _ => decide | 8, _ => decide | 9, _ => decide | 10, _ => decide | 11, _ => decide
theorem len_bd (y m : Int) (h1 : 1 ≤ m) (h2 : m ≤ 12) : 28 ≤ len y m ∧ len y m ≤ 31 := by
  unfold len; split
  · omega
  · exact tb_bd _ (by omega)

/-- days from 1 March of the year 0 to the first day of a year that begins in March -/
def dy (y : Int) : Int := 365 * y + y / 4 - y / 100 + y / 400
/-- days before a month that is counted from March -/
def dm (m : Int) : Int := (153 * m + 2) / 5
/-- the number of a day -/
def num (y m d : Int) : Int := dy (if m ≤ 2 then y - 1 else y) + dm ((m + 9) % 12) + d - 1 - 657377

/-- a date that is written as required -/
def okD (y m d : Int) : Bool := decide (1 ≤ m ∧ m ≤ 12 ∧ 1 ≤ d ∧ d ≤ len y m)
/-- a year of the calendar -/
def okY (y : Int) : Bool := decide (1800 ≤ y ∧ y ≤ 2073)
/-- a day -/
def okN (n : Int) : Bool := decide (0 ≤ n ∧ n ≤ 100000)
/-- what Make returns: the error -/
def mkE (y m d : Int) : Int := if okY y = false then 9 else if okD y m d = false then 1 else if okN (num y m d) = false then 9 else 0
/-- what Make returns: the day -/
def mkV (y m d : Int) : Int := if mkE y m d = 0 then num y m d else 0

def s0 (n : Int) : Int := (n + 657377) % 146097
def sy (d : Int) : Int := (d - d / 1460 + d / 36524 - d / 146096) / 365
def s1 (d : Int) : Int := d - (365 * sy d + sy d / 4 - sy d / 100)
def sm (d : Int) : Int := (5 * d + 2) / 153
def spD (n : Int) : Int := s1 (s0 n) - (153 * sm (s1 (s0 n)) + 2) / 5 + 1
def spM (n : Int) : Int := (sm (s1 (s0 n)) + 2) % 12 + 1
def spY (n : Int) : Int := if spM n ≤ 2 then 400 * ((n + 657377) / 146097) + sy (s0 n) + 1 else 400 * ((n + 657377) / 146097) + sy (s0 n)
theorem s0_bd (n : Int) : 0 ≤ s0 n ∧ s0 n ≤ 146096 := by unfold s0; omega

/-- the year of an era and the day of the year -/
theorem civ (d : Int) (h : 0 ≤ d) (h2 : d ≤ 146096) : ∃ q k j t : Int, 0 ≤ q ∧ q ≤ 3 ∧ 0 ≤ k ∧ k ≤ 24 ∧ 0 ≤ j ∧ j ≤ 3 ∧ 0 ≤ t ∧ t ≤ 365 ∧ (t = 365 → j = 3 ∧ (k < 24 ∨ q = 3)) ∧ sy d = 100 * q + 4 * k + j ∧ d = 36524 * q + 1461 * k + 365 * j + t := by
  by_cases he : d = 146096
  · subst he; exact ⟨3, 24, 3, 365, by decide⟩
  · obtain ⟨q, r1, e1, q0, q3, r0, r2⟩ : ∃ q r1 : Int, d = 36524 * q + r1 ∧ 0 ≤ q ∧ q ≤ 3 ∧ 0 ≤ r1 ∧ r1 ≤ 36523 := ⟨d / 36524, d % 36524, by omega, by omega, by omega, by omega, by omega⟩
    obtain ⟨k, r, e2, k0, k1, r3, r4⟩ : ∃ k r : Int, r1 = 1461 * k + r ∧ 0 ≤ k ∧ k ≤ 24 ∧ 0 ≤ r ∧ r ≤ 1460 := ⟨r1 / 1461, r1 % 1461, by omega, by omega, by omega, by omega, by omega⟩
    subst e2
    have a1 : d / 36524 = q := by omega
    have a2 : d / 146096 = 0 := by omega
    have hlast : r = 1460 → (k < 24 ∨ q = 3) := by omega
    have h1460 : d / 1460 = 25 * q + k + (24 * q + k + r) / 1460 := by omega
    by_cases hr : 24 * q + k + r < 1460
    · have h3 : (24 * q + k + r) / 1460 = 0 := by omega
      have hs : sy d = 100 * q + 4 * k + r / 365 := by unfold sy; rw [h1460, a1, a2, h3]; omega
      exact ⟨q, k, r / 365, r % 365, q0, q3, k0, k1, by omega, by omega, by omega, by omega, by omega, hs, by omega⟩
    · have h3 : (24 * q + k + r) / 1460 = 1 := by omega
      have hs : sy d = 100 * q + 4 * k + 3 := by unfold sy; rw [h1460, a1, a2, h3]; omega
      exact ⟨q, k, 3, r - 1095, q0, q3, k0, k1, by omega, by omega, by omega, by omega, by omega, hs, by omega⟩

theorem sy_bd (d : Int) (h : 0 ≤ d) (h2 : d ≤ 146096) : 0 ≤ sy d ∧ sy d ≤ 399 := by
  obtain ⟨q, k, j, t, _, _, _, _, _, _, _, _, _, e, _⟩ := civ d h h2; omega
theorem s1_bd (d : Int) (h : 0 ≤ d) (h2 : d ≤ 146096) : 0 ≤ s1 d ∧ s1 d ≤ 365 ∧ (s1 d = 365 → lp (sy d + 1) = true) ∧ d = dy (sy d) + s1 d := by
  obtain ⟨q, k, j, t, _, _, _, _, _, _, _, _, ht, e, _⟩ := civ d h h2
  have e4 : sy d / 4 = 25 * q + k := by omega
  have e100 : sy d / 100 = q := by omega
  have e400 : sy d / 400 = 0 := by omega
  have es : s1 d = t := by unfold s1; omega
  refine ⟨by omega, by omega, fun h => ?_, by unfold dy; omega⟩
  have := ht (by omega)
  simp only [lp, Bool.or_eq_true, Bool.and_eq_true, beq_iff_eq, bne_iff_ne]
  omega
theorem sm_bd (d : Int) (h : 0 ≤ d) (h2 : d ≤ 365) : 0 ≤ sm d ∧ sm d ≤ 11 ∧ dm (sm d) ≤ d ∧ d < dm (sm d + 1) := by unfold sm dm; omega
theorem lp_iff (y : Int) : lp y = true ↔ (y % 4 = 0 ∧ y % 100 ≠ 0) ∨ y % 400 = 0 := by
  simp only [lp, Bool.or_eq_true, Bool.and_eq_true, beq_iff_eq, bne_iff_ne]
theorem dy_succ (y : Int) : dy (y + 1) = dy y + if lp (y + 1) = true then 366 else 365 := by
  have h := lp_iff (y + 1)
  have h4 : (y + 1) / 4 = y / 4 + if (y + 1) % 4 = 0 then 1 else 0 := by split <;> omega
  have h100 : (y + 1) / 100 = y / 100 + if (y + 1) % 100 = 0 then 1 else 0 := by split <;> omega
  have h400 : (y + 1) / 400 = y / 400 + if (y + 1) % 400 = 0 then 1 else 0 := by split <;> omega
  have g1 : (y + 1) % 100 = 0 → (y + 1) % 4 = 0 := by omega
  have g2 : (y + 1) % 400 = 0 → (y + 1) % 100 = 0 := by omega
  unfold dy; rw [h4, h100, h400]; clear h4 h100 h400
  by_cases a : (y + 1) % 4 = 0
  · by_cases b : (y + 1) % 100 = 0
    · by_cases c : (y + 1) % 400 = 0
      · rw [if_pos a, if_pos b, if_pos c, if_pos (h.2 (Or.inr c))]; omega
      · rw [if_pos a, if_pos b, if_neg c, if_neg (fun x => by rcases h.1 x with ⟨_, y⟩ | y; exact y b; exact c y)]; omega
    · rw [if_pos a, if_neg b, if_neg (fun x => b (g2 x)), if_pos (h.2 (Or.inl ⟨a, b⟩))]; omega
  · rw [if_neg a, if_neg (fun x => a (g1 x)), if_neg (fun x => a (g1 (g2 x))), if_neg (fun x => by rcases h.1 x with ⟨y, _⟩ | y; exact a y; exact a (g1 (g2 y)))]; omega
theorem dy_mono (a b : Int) (h : a ≤ b) : dy a ≤ dy b := by unfold dy; omega
theorem dy_era (e y : Int) : dy (400 * e + y) = 146097 * e + dy y := by unfold dy; omega
theorem lp_era (e y : Int) : lp (400 * e + y) = lp y := by
  rw [Bool.eq_iff_iff, lp_iff, lp_iff]; omega
theorem dm_mono (a b : Int) (h : a ≤ b) : dm a ≤ dm b := by unfold dm; omega
/-- the month that is counted from March -/
def mr (m : Int) : Int := (m + 9) % 12
/-- the year that begins in March -/
def yr (y m : Int) : Int := if m ≤ 2 then y - 1 else y
theorem num_eq (y m d : Int) : num y m d = dy (yr y m) + dm (mr m) + d - 1 - 657377 := rfl
theorem mcases (m : Int) (h1 : 1 ≤ m) (h2 : m ≤ 12) : m = 1 ∨ m = 2 ∨ m = 3 ∨ m = 4 ∨ m = 5 ∨ m = 6 ∨ m = 7 ∨ m = 8 ∨ m = 9 ∨ m = 10 ∨ m = 11 ∨ m = 12 := by omega
theorem len_dm (y m : Int) (h1 : 1 ≤ m) (h2 : m ≤ 12) (h : m ≠ 2) : len y m = dm (mr m + 1) - dm (mr m) := by
  unfold len; rw [if_neg (by omega)]
  rcases mcases m h1 h2 with rfl | rfl | rfl | rfl | rfl | rfl | rfl | rfl | rfl | rfl | rfl | rfl <;> first | decide | omega
theorem len_feb (y : Int) : len y 2 = if lp y = true then 29 else 28 := by
  unfold len; simp [tb]
/-- a valid date lies within its month and its year -/
theorem in_year (y m d : Int) (h1 : 1 ≤ m) (h2 : m ≤ 12) (h3 : 1 ≤ d) (h4 : d ≤ len y m) : 0 ≤ mr m ∧ mr m ≤ 11 ∧ dm (mr m) ≤ dm (mr m) + d - 1 ∧ (mr m < 11 → dm (mr m) + d - 1 < dm (mr m + 1)) ∧ dy (yr y m) + (dm (mr m) + d - 1) < dy (yr y m + 1) ∧ dm (mr m) + d - 1 ≤ 365 := by
  have hr : 0 ≤ mr m ∧ mr m ≤ 11 := by unfold mr; omega
  refine ⟨hr.1, hr.2, by omega, fun hlt => ?_, ?_⟩
  · have := len_dm y m h1 h2 (by rintro rfl; revert hlt; decide)
    omega
  · have hs := dy_succ (yr y m)
    by_cases hm : m = 2
    · subst hm
      have e1 : yr y 2 = y - 1 := rfl
      have e2 : dm (mr 2) = 337 := by decide
      rw [len_feb] at h4
      rw [e1] at hs ⊢
      rw [show y - 1 + 1 = y by omega] at hs ⊢
      rw [e2]
      by_cases hl : lp y = true
      · rw [if_pos hl] at h4 hs; omega
      · rw [if_neg hl] at h4 hs; omega
    · have hl := len_dm y m h1 h2 hm
      have hx : dm (mr m + 1) ≤ dm 11 := dm_mono _ _ (by unfold mr; omega)
      have e11 : dm 11 = 337 := by decide
      split at hs <;> omega
/-- two valid dates with one number are one -/
theorem num_inj (y m d y' m' d' : Int) (h1 : 1 ≤ m) (h2 : m ≤ 12) (h3 : 1 ≤ d) (h4 : d ≤ len y m) (g1 : 1 ≤ m') (g2 : m' ≤ 12) (g3 : 1 ≤ d') (g4 : d' ≤ len y' m') (e : num y m d = num y' m' d') : y = y' ∧ m = m' ∧ d = d' := by
  rw [num_eq, num_eq] at e
  obtain ⟨a1, a2, a3, a4, a5, _⟩ := in_year y m d h1 h2 h3 h4
  obtain ⟨b1, b2, b3, b4, b5, _⟩ := in_year y' m' d' g1 g2 g3 g4
  have z1 : 0 ≤ dm (mr m) := by unfold dm; omega
  have z2 : 0 ≤ dm (mr m') := by unfold dm; omega
  have hY : yr y m = yr y' m' := by
    rcases Int.lt_trichotomy (yr y m) (yr y' m') with h | h | h
    · have := dy_mono (yr y m + 1) (yr y' m') (by omega); omega
    · exact h
    · have := dy_mono (yr y' m' + 1) (yr y m) (by omega); omega
  rw [hY] at e
  have hM : mr m = mr m' := by
    rcases Int.lt_trichotomy (mr m) (mr m') with h | h | h
    · have := dm_mono (mr m + 1) (mr m') (by omega); have := a4 (by omega); omega
    · exact h
    · have := dm_mono (mr m' + 1) (mr m) (by omega); have := b4 (by omega); omega
  have hm : m = m' := by unfold mr at hM; omega
  subst hm
  refine ⟨?_, rfl, by omega⟩
  unfold yr at hY; split at hY <;> omega
/-- Split returns a valid date that has the day's number -/
theorem split_ok (n : Int) : 1 ≤ spM n ∧ spM n ≤ 12 ∧ 1 ≤ spD n ∧ spD n ≤ len (spY n) (spM n) ∧ num (spY n) (spM n) (spD n) = n := by
  have b0 := s0_bd n
  have b1 := s1_bd (s0 n) b0.1 b0.2
  have b2 := sm_bd (s1 (s0 n)) b1.1 b1.2.1
  obtain ⟨c1, c2, c3, c4⟩ := b2
  have hM : mr (spM n) = sm (s1 (s0 n)) := by unfold mr spM; omega
  have hm : 1 ≤ spM n ∧ spM n ≤ 12 := by unfold spM; omega
  have hY : yr (spY n) (spM n) = 400 * ((n + 657377) / 146097) + sy (s0 n) := by
    unfold yr spY; split <;> omega
  have hD : spD n = s1 (s0 n) - dm (sm (s1 (s0 n))) + 1 := rfl
  have hd : 1 ≤ spD n := by omega
  refine ⟨hm.1, hm.2, hd, ?_, ?_⟩
  · by_cases h2 : spM n = 2
    · rw [h2, len_feb]
      have hs : sm (s1 (s0 n)) = 11 := by rw [← hM, h2]; decide
      rw [hD, hs, show dm 11 = 337 by decide]
      have e : spY n = 400 * ((n + 657377) / 146097) + (sy (s0 n) + 1) := by unfold spY; rw [if_pos (by omega)]; omega
      rw [e, lp_era]
      split
      · omega
      · rename_i hl
        have : s1 (s0 n) ≠ 365 := fun h => hl (b1.2.2.1 h)
        omega
    · rw [len_dm _ _ hm.1 hm.2 h2, hM]; omega
  · rw [num_eq, hY, hM, dy_era, hD]
    have := b1.2.2.2
    unfold s0 at this ⊢
    omega
/-- of a valid date Split returns the date -/
theorem split_num (y m d : Int) (h1 : 1 ≤ m) (h2 : m ≤ 12) (h3 : 1 ≤ d) (h4 : d ≤ len y m) : spY (num y m d) = y ∧ spM (num y m d) = m ∧ spD (num y m d) = d := by
  obtain ⟨a1, a2, a3, a4, a5⟩ := split_ok (num y m d)
  obtain ⟨e1, e2, e3⟩ := num_inj _ _ _ _ _ _ a1 a2 a3 a4 h1 h2 h3 h4 a5
  exact ⟨e1, e2, e3⟩

/-- the number of the month some months later -/
def mk (n a : Int) : Int := 12 * spY n + spM n - 1 + a
/-- what Months returns: the day, the error -/
def moV (n a : Int) : Int := if a < -3288 ∨ 3288 < a then 0 else mkV (mk n a / 12) (mk n a % 12 + 1) (min (spD n) (len (mk n a / 12) (mk n a % 12 + 1)))
def moE (n a : Int) : Int := if a < -3288 ∨ 3288 < a then 9 else mkE (mk n a / 12) (mk n a % 12 + 1) (min (spD n) (len (mk n a / 12) (mk n a % 12 + 1)))
/-- the years of the calendar -/
theorem split_yr (n : Int) (h0 : 0 ≤ n) (h1 : n ≤ 100000) : 1800 ≤ spY n ∧ spY n ≤ 2073 := by
  obtain ⟨a1, a2, a3, a4, a5⟩ := split_ok n
  obtain ⟨b1, b2, b3, b4, b5, b6⟩ := in_year _ _ _ a1 a2 a3 a4
  rw [num_eq] at a5
  have z : 0 ≤ dm (mr (spM n)) := by unfold dm; omega
  have l1 : 1799 ≤ yr (spY n) (spM n) := by
    rcases Int.lt_or_le (yr (spY n) (spM n)) 1799 with h | h
    · have := dy_mono (yr (spY n) (spM n) + 1) 1799 (by omega)
      have e : dy 1799 = 657071 := by decide
      omega
    · exact h
  have l2 : yr (spY n) (spM n) ≤ 2073 := by
    rcases Int.lt_or_le 2073 (yr (spY n) (spM n)) with h | h
    · have := dy_mono 2074 (yr (spY n) (spM n)) (by omega)
      have e : dy 2074 = 757513 := by decide
      omega
    · exact h
  unfold yr at l1 l2
  split at l1
  · rename_i hm
    rw [if_pos hm] at l2
    refine ⟨by omega, ?_⟩
    rcases Int.lt_or_le 2073 (spY n) with h | h
    · have hy : spY n = 2074 := by omega
      have e1 : yr (spY n) (spM n) = 2073 := by unfold yr; rw [if_pos hm]; omega
      have e2 : mr (spM n) = 10 ∨ mr (spM n) = 11 := by unfold mr; omega
      have e3 : 306 ≤ dm (mr (spM n)) := by rcases e2 with e | e <;> rw [e] <;> decide
      have e : dy 2073 = 757148 := by decide
      rw [e1] at a5
      omega
    · exact h
  · rename_i hm
    rw [if_neg hm] at l2
    refine ⟨?_, by omega⟩
    rcases Int.lt_or_le (spY n) 1800 with h | h
    · have e1 : yr (spY n) (spM n) = 1799 := by unfold yr; rw [if_neg hm]; omega
      have e2 : mr (spM n) ≤ 9 := by unfold mr; omega
      have e3 : dm (mr (spM n) + 1) ≤ dm 10 := dm_mono _ _ (by omega)
      have e4 : dm 10 = 306 := by decide
      have e : dy 1799 = 657071 := by decide
      rw [e1] at a5
      have := b4 (by omega)
      omega
    · exact h
end Go.Proofs.YtngbkdnkpolbfaaDoor
