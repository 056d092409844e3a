/- Plain facts on the calendar: the next day; months later. No program in sight. Under no condition. -/
import Derived.Test.YtngbkdnkpolbfaaDoorPlain
namespace Go.Proofs.YtngbkdnkpolbfaaDoor

theorem num_succ (y m d : Int) : num y m (d + 1) = num y m d + 1 := by unfold num; omega
theorem num_month (y m : Int) (h1 : 1 ≤ m) (h2 : m < 12) : num y (m + 1) 1 = num y m (len y m) + 1 := by
  rw [num_eq, num_eq]
  by_cases hm : m = 2
  · subst hm
    rw [len_feb]
    have hs := dy_succ (y - 1)
    rw [show y - 1 + 1 = y by omega] at hs
    have e1 : yr y 2 = y - 1 := rfl
    have e2 : yr y (2 + 1) = y := rfl
    have e3 : dm (mr 2) = 337 := by decide
    have e4 : dm (mr (2 + 1)) = 0 := by decide
    rw [e1, e2, e3, e4]
    split at hs <;> rename_i hl
    · rw [if_pos hl]; omega
    · rw [if_neg hl]; omega
  · rw [len_dm y m h1 (by omega) hm]
    have e1 : yr y (m + 1) = yr y m := by unfold yr; split <;> split <;> omega
    have e2 : mr (m + 1) = mr m + 1 := by unfold mr; omega
    rw [e1, e2]; omega
theorem num_year (y : Int) : num (y + 1) 1 1 = num y 12 (len y 12) + 1 := by
  rw [num_eq, num_eq, len_dm y 12 (by omega) (by omega) (by omega)]
  have e1 : yr (y + 1) 1 = y := by unfold yr; rw [if_pos (by omega)]; omega
  have e2 : yr y 12 = y := by unfold yr; rw [if_neg (by omega)]
  have e3 : mr 1 = mr 12 + 1 := by decide
  rw [e1, e2, e3]; omega
/-- the next day -/
theorem next_in (n : Int) (h : spD n < len (spY n) (spM n)) : spY (n + 1) = spY n ∧ spM (n + 1) = spM n ∧ spD (n + 1) = spD n + 1 := by
  obtain ⟨a1, a2, a3, a4, a5⟩ := split_ok n
  have := split_num (spY n) (spM n) (spD n + 1) a1 a2 (by omega) (by omega)
  rwa [num_succ, a5] at this
theorem next_month (n : Int) (h : spD n = len (spY n) (spM n)) (hm : spM n < 12) : spY (n + 1) = spY n ∧ spM (n + 1) = spM n + 1 ∧ spD (n + 1) = 1 := by
  obtain ⟨a1, a2, a3, a4, a5⟩ := split_ok n
  have hb := len_bd (spY n) (spM n + 1) (by omega) (by omega)
  have := split_num (spY n) (spM n + 1) 1 (by omega) (by omega) (by omega) (by omega)
  rwa [num_month _ _ a1 hm, ← h, a5] at this
theorem next_year (n : Int) (h : spD n = len (spY n) (spM n)) (hm : spM n = 12) : spY (n + 1) = spY n + 1 ∧ spM (n + 1) = 1 ∧ spD (n + 1) = 1 := by
  obtain ⟨a1, a2, a3, a4, a5⟩ := split_ok n
  have hb := len_bd (spY n + 1) 1 (by omega) (by omega)
  have := split_num (spY n + 1) 1 1 (by omega) (by omega) (by omega) (by omega)
  rw [hm] at h a5
  rwa [num_year, ← h, a5] at this
end Go.Proofs.YtngbkdnkpolbfaaDoor
