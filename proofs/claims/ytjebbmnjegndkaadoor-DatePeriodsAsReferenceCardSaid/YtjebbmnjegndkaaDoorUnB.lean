/- Plain facts on unions: how many periods cover a day; the periods twice in the opposite order. No program in sight. Under no condition. -/
import Derived.Test.YtjebbmnjegndkaaDoorUn
namespace Go.Proofs.YtjebbmnjegndkaaDoor

/-- how many periods cover a day -/
def cnt (l : List (Int × Int)) (d : Int) : Nat := (l.filter fun p => cov p d).length
theorem cnt_snoc (l : List (Int × Int)) (p : Int × Int) (d : Int) : cnt (l ++ [p]) d = cnt l d + if cov p d = true then 1 else 0 := by
  unfold cnt
  rw [List.filter_append, List.length_append]
  by_cases h : cov p d = true <;> simp [h]
theorem cnt_le (l : List (Int × Int)) (d : Int) : cnt l d ≤ l.length := List.length_filter_le _ _
theorem RC.count {a : List (Int × Int)} (h : RC a) (d : Int) : cnt a d ≤ 1 ∧ (cnt a d = 1 ↔ cv a d = true) := by
  induction a with
  | nil => simp [cnt, cv]
  | cons p t ih =>
    have ih' := ih h.tail
    have hb := h.before d
    have e : cnt (p :: t) d = (if cov p d = true then 1 else 0) + cnt t d := by
      unfold cnt
      by_cases hc : cov p d = true <;> simp [hc]
      omega
    rw [e, cv_cons, Bool.or_eq_true]
    by_cases hc : cov p d = true
    · have hn : ¬ cv t d = true := fun x => by
        have := hb x
        have := (cov_iff p h.head d).1 hc
        omega
      have : cnt t d = 0 := by
        rcases Nat.eq_zero_or_pos (cnt t d) with z | z
        · exact z
        · exact absurd (ih'.2.1 (by omega)) hn
      rw [if_pos hc]
      exact ⟨by omega, fun _ => Or.inl hc, fun _ => by omega⟩
    · rw [if_neg hc, Nat.zero_add]
      refine ⟨ih'.1, fun x => Or.inr (ih'.2.1 x), fun x => ih'.2.2 (x.resolve_left hc)⟩
theorem UnOf.count {l u : List (Int × Int)} (h : UnOf l u) (d : Int) : cnt u d ≤ 1 ∧ (cnt u d = 1 ↔ cv l d = true) := by
  have := h.1.count d
  rw [cv_rev, h.2] at this
  unfold cnt at *
  rw [List.filter_reverse, List.length_reverse] at this
  exact this
theorem RC.adj {a : List (Int × Int)} (h : RC a) (i : Nat) (hi : i + 1 < a.length) : en a[i + 1] < a[i].1 := by
  induction a generalizing i with
  | nil => simp at hi
  | cons p t ih =>
    cases t with
    | nil => simp at hi
    | cons q t =>
      cases i with
      | zero => exact h.2.1
      | succ i => exact ih h.2.2 i (by simpa using hi)
theorem UnOf.adj {l u : List (Int × Int)} (h : UnOf l u) (k : Nat) (hk : k + 1 < u.length) : en u[k] < u[k + 1].1 := by
  have := h.1.adj (u.length - 1 - (k + 1)) (by rw [List.length_reverse]; omega)
  rw [List.getElem_reverse, List.getElem_reverse] at this
  have e1 : u.length - 1 - (u.length - 1 - (k + 1) + 1) = k := by omega
  have e2 : u.length - 1 - (u.length - 1 - (k + 1)) = k + 1 := by omega
  simp only [e1, e2] at this
  exact this
/-- the one before ends on a day, and ahead of the next one -/
theorem UnOf.before {l u : List (Int × Int)} (h : UnOf l u) (k : Nat) (hk : k + 1 < u.length) : (u[k].2 == -1) = false ∧ decide (u[k + 1].1 ≤ u[k].2) = false := by
  have := h.adj k hk
  have p1 := (prp_iff _).1 (h.prps u[k + 1] (List.getElem_mem _))
  have p0 := (prp_iff _).1 (h.prps u[k] (List.getElem_mem _))
  rcases en_of u[k] with ⟨_, e⟩ | ⟨_, e⟩
  · omega
  · refine ⟨by simp only [beq_eq_false_iff_ne]; omega, by simp only [decide_eq_false_iff_not]; omega⟩

/-- each period twice, from the end down to a place -/
def bk (l : List (Int × Int)) (k : Nat) : List (Int × Int) := (l.drop k).reverse.flatMap fun p => [p, p]
theorem bk_end (l : List (Int × Int)) : bk l l.length = [] := by unfold bk; simp
theorem bk_step (l : List (Int × Int)) (k : Nat) (h : k < l.length) : bk l k = bk l (k + 1) ++ [l[k], l[k]] := by
  unfold bk
  rw [List.drop_eq_getElem_cons h, List.reverse_cons, List.flatMap_append]
  rfl
theorem dbl_len (m : List (Int × Int)) : (m.flatMap fun p => [p, p]).length = 2 * m.length := by
  induction m with
  | nil => rfl
  | cons p t ih => rw [List.flatMap_cons, List.length_append, ih, List.length_cons]; simp; omega
theorem bk_len (l : List (Int × Int)) (k : Nat) : (bk l k).length = 2 * (l.length - k) := by
  unfold bk
  rw [dbl_len, List.length_reverse, List.length_drop]
theorem bk_mem (l : List (Int × Int)) (p : Int × Int) : p ∈ bk l 0 ↔ p ∈ l := by
  unfold bk; simp
theorem bk_cv (l : List (Int × Int)) (d : Int) : cv (bk l 0) d = cv l d := by
  rw [Bool.eq_iff_iff, cv_iff, cv_iff]
  simp only [bk_mem]
end Go.Proofs.YtjebbmnjegndkaaDoor
