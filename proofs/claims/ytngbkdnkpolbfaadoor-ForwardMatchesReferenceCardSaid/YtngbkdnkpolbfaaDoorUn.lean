/- Plain facts on periods and their union: no program in sight. Under no condition. -/
import Derived.WalkKit
namespace Go.Proofs.YtngbkdnkpolbfaaDoor

/-- the first day that a period does not cover any more -/
def en (p : Int × Int) : Int := if p.2 < 0 then 100001 else p.2
/-- a proper period -/
def prp (p : Int × Int) : Bool := decide (0 ≤ p.1 ∧ p.1 ≤ 100000 ∧ (p.2 = -1 ∨ (0 ≤ p.2 ∧ p.2 ≤ 100000 ∧ p.1 < p.2)))
/-- a period covers a day -/
def cov (p : Int × Int) (d : Int) : Bool := prp p && decide (0 ≤ d ∧ d ≤ 100000 ∧ p.1 ≤ d ∧ d < en p)

theorem prp_iff (p : Int × Int) : prp p = true ↔ 0 ≤ p.1 ∧ p.1 ≤ 100000 ∧ (p.2 = -1 ∨ (0 ≤ p.2 ∧ p.2 ≤ 100000 ∧ p.1 < p.2)) := by
  unfold prp; rw [decide_eq_true_iff]
theorem en_of (p : Int × Int) : (p.2 < 0 ∧ en p = 100001) ∨ (0 ≤ p.2 ∧ en p = p.2) := by
  unfold en; split
  · exact Or.inl ⟨‹_›, rfl⟩
  · exact Or.inr ⟨by omega, rfl⟩
theorem cov_iff (p : Int × Int) (h : prp p = true) (d : Int) : cov p d = true ↔ p.1 ≤ d ∧ d < en p := by
  unfold cov; rw [h, Bool.true_and, decide_eq_true_iff]
  have := (prp_iff p).1 h
  rcases en_of p with ⟨_, e⟩ | ⟨_, e⟩ <;> omega
theorem prp_lt (p : Int × Int) (h : prp p = true) : 0 ≤ p.1 ∧ p.1 < en p ∧ en p ≤ 100001 := by
  have := (prp_iff p).1 h
  rcases en_of p with ⟨_, e⟩ | ⟨_, e⟩ <;> omega
theorem en_inj (p q : Int × Int) (hp : prp p = true) (hq : prp q = true) (h1 : p.1 = q.1) (h2 : en p = en q) : p = q := by
  have a := (prp_iff p).1 hp
  have b := (prp_iff q).1 hq
  have e : p.2 = q.2 := by
    rcases en_of p with ⟨_, e⟩ | ⟨_, e⟩ <;> rcases en_of q with ⟨_, f⟩ | ⟨_, f⟩ <;> omega
  exact Prod.ext h1 e
end Go.Proofs.YtngbkdnkpolbfaaDoor
