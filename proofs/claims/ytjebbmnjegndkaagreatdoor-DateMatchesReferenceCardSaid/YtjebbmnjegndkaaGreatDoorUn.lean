/- Plain facts on periods and their union: no program in sight. Under no condition. -/
import Derived.WalkKit
namespace Go.Proofs.YtjebbmnjegndkaaGreatDoor

/-- the first day that a period does not cover any more -/
def en (p : Int × Int) : Int := if p.2 < 0 then 100001 else p.2
/-- a proper period -/
def prp (p : Int × Int) : Bool := decide (0 ≤ p.1 ∧ p.1 ≤ 100000 ∧ (p.2 = -1 ∨ (0 ≤ p.2 ∧ p.2 ≤ 100000 ∧ p.1 < p.2)))
/-- a period covers a day -/
def cov (p : Int × Int) (d : Int) : Bool := prp p && decide (0 ≤ d ∧ d ≤ 100000 ∧ p.1 ≤ d ∧ d < en p)
/-- one of a list covers a day -/
def cv (l : List (Int × Int)) (d : Int) : Bool := l.any fun p => cov p d

theorem prp_iff (p : Int × Int) : prp p = true ↔ 0 ≤ p.1 ∧ p.1 ≤ 100000 ∧ (p.2 = -1 ∨ (0 ≤ p.2 ∧ p.2 ≤ 100000 ∧ p.1 < p.2)) := by
  unfold prp; rw [decide_eq_true_iff]
theorem en_of (p : Int × Int) : (p.2 < 0 ∧ en p = 100001) ∨ (0 ≤ p.2 ∧ en p = p.2) := by
  unfold en; split
  · exact Or.inl ⟨‹_›, rfl⟩
  · exact Or.inr ⟨by omega, rfl⟩
theorem cov_iff (p : Int × Int) (h : prp p = true) (d : Int) : cov p d = true ↔ p.1 ≤ d ∧ d < en p := by
  unfold cov; rw [h, Bool.true_and, decide_eq_true_iff]
  have := (prp_iff p).1 h
  rcases en_of p with ⟨_, e⟩ | ⟨_, e⟩ <;> omega
theorem prp_lt (p : Int × Int) (h : prp p = true) : 0 ≤ p.1 ∧ p.1 < en p ∧ en p ≤ 100001 := by
  have := (prp_iff p).1 h
  rcases en_of p with ⟨_, e⟩ | ⟨_, e⟩ <;> omega
theorem en_inj (p q : Int × Int) (hp : prp p = true) (hq : prp q = true) (h1 : p.1 = q.1) (h2 : en p = en q) : p = q := by
  have a := (prp_iff p).1 hp
  have b := (prp_iff q).1 hq
  have e : p.2 = q.2 := by
    rcases en_of p with ⟨_, e⟩ | ⟨_, e⟩ <;> rcases en_of q with ⟨_, f⟩ | ⟨_, f⟩ <;> omega
  exact Prod.ext h1 e
theorem cv_cons (p : Int × Int) (l : List (Int × Int)) (d : Int) : cv (p :: l) d = (cov p d || cv l d) := rfl
theorem cv_app (a b : List (Int × Int)) (d : Int) : cv (a ++ b) d = (cv a d || cv b d) := List.any_append
theorem cv_iff (l : List (Int × Int)) (d : Int) : cv l d = true ↔ ∃ p ∈ l, cov p d = true := List.any_eq_true
theorem cv_rev (a : List (Int × Int)) (d : Int) : cv a.reverse d = cv a d := by unfold cv; rw [List.any_reverse]
theorem cv_perm {a b : List (Int × Int)} (h : a.Perm b) (d : Int) : cv a d = cv b d := by
  rw [Bool.eq_iff_iff, cv_iff, cv_iff]
  exact ⟨fun ⟨p, m, c⟩ => ⟨p, h.mem_iff.1 m, c⟩, fun ⟨p, m, c⟩ => ⟨p, h.mem_iff.2 m, c⟩⟩

/-- proper periods, the last one first, each later than the next one's end -/
def RC : List (Int × Int) → Prop
  | [] => True
  | [p] => prp p = true
  | p :: q :: t => prp p = true ∧ en q < p.1 ∧ RC (q :: t)
theorem RC.tail {p : Int × Int} {t : List (Int × Int)} (h : RC (p :: t)) : RC t := by
  cases t with
  | nil => trivial
  | cons q t => exact h.2.2
theorem RC.head {p : Int × Int} {t : List (Int × Int)} (h : RC (p :: t)) : prp p = true := by
  cases t with
  | nil => exact h
  | cons q t => exact h.1
/-- what the later ones cover lies behind -/
theorem RC.before {p : Int × Int} {t : List (Int × Int)} (h : RC (p :: t)) (d : Int) (hc : cv t d = true) : d < p.1 - 1 := by
  induction t generalizing p with
  | nil => simp [cv] at hc
  | cons q t ih =>
    have ⟨h1, h2, h3⟩ := h
    have hq := h3.head
    have lq := prp_lt q hq
    rw [cv_cons, Bool.or_eq_true] at hc
    rcases hc with hc | hc
    · have := (cov_iff q hq d).1 hc; omega
    · have := ih h3 hc; omega
theorem RC.prps {l : List (Int × Int)} (h : RC l) : ∀ p ∈ l, prp p = true := by
  induction l with
  | nil => intro p hp; cases hp
  | cons q t ih =>
    intro p hp
    rcases List.mem_cons.1 hp with rfl | hp
    · exact h.head
    · exact ih h.tail p hp
/-- two such lists that cover the same days are one -/
theorem RC.ext {a b : List (Int × Int)} (ha : RC a) (hb : RC b) (h : ∀ d, cv a d = cv b d) : a = b := by
  induction a generalizing b with
  | nil =>
    cases b with
    | nil => rfl
    | cons q t =>
      exfalso
      have hq := hb.head
      have l := prp_lt q hq
      have := h q.1
      rw [cv_cons, (cov_iff q hq q.1).2 ⟨by omega, by omega⟩] at this
      simp [cv] at this
  | cons p s ih =>
    cases b with
    | nil =>
      exfalso
      have hq := ha.head
      have l := prp_lt p hq
      have := h p.1
      rw [cv_cons, (cov_iff p hq p.1).2 ⟨by omega, by omega⟩] at this
      simp [cv] at this
    | cons q t =>
      have hp := ha.head
      have hq := hb.head
      have lp' := prp_lt p hp
      have lq := prp_lt q hq
      have key : ∀ d, (p.1 ≤ d ∧ d < en p ∨ cv s d = true) ↔ (q.1 ≤ d ∧ d < en q ∨ cv t d = true) := by
        intro d
        have := h d
        rw [cv_cons, cv_cons, Bool.eq_iff_iff, Bool.or_eq_true, Bool.or_eq_true, cov_iff p hp, cov_iff q hq] at this
        exact this
      have bs := fun d => ha.before d
      have bt := fun d => hb.before d
      have e1 : en p ≤ en q := by
        rcases (key (en p - 1)).1 (Or.inl ⟨by omega, by omega⟩) with x | x
        · omega
        · have := bt _ x; omega
      have e2 : en q ≤ en p := by
        rcases (key (en q - 1)).2 (Or.inl ⟨by omega, by omega⟩) with x | x
        · omega
        · have := bs _ x; omega
      have f1 : p.1 ≤ q.1 := by
        rcases Int.lt_or_le q.1 p.1 with hlt | hle
        · rcases (key (p.1 - 1)).2 (Or.inl ⟨by omega, by omega⟩) with x | x
          · omega
          · have := bs _ x; omega
        · exact hle
      have f2 : q.1 ≤ p.1 := by
        rcases Int.lt_or_le p.1 q.1 with hlt | hle
        · rcases (key (q.1 - 1)).1 (Or.inl ⟨by omega, by omega⟩) with x | x
          · omega
          · have := bt _ x; omega
        · exact hle
      have epq : p = q := en_inj p q hp hq (by omega) (by omega)
      subst epq
      congr 1
      refine ih ha.tail hb.tail fun d => ?_
      rw [Bool.eq_iff_iff]
      constructor
      · intro x
        have := bs _ x
        rcases (key d).1 (Or.inr x) with y | y
        · omega
        · exact y
      · intro x
        have := bt _ x
        rcases (key d).2 (Or.inr x) with y | y
        · omega
        · exact y

/-- a further period -/
def rst : List (Int × Int) → Int × Int → List (Int × Int)
  | [], p => [p]
  | q :: t, p => if p.1 ≤ en q then (if en q < en p then (q.1, p.2) :: t else q :: t) else p :: q :: t
theorem rst_cons (q : Int × Int) (t : List (Int × Int)) (p : Int × Int) : rst (q :: t) p = if p.1 ≤ en q then (if en q < en p then (q.1, p.2) :: t else q :: t) else p :: q :: t := rfl
theorem rst_ok (a : List (Int × Int)) (p : Int × Int) (ha : RC a) (hp : prp p = true) (hh : ∀ q, a.head? = some q → q.1 ≤ p.1) :
    RC (rst a p) ∧ (∀ q, (rst a p).head? = some q → q.1 ≤ p.1) ∧ ∀ d, cv (rst a p) d = (cv a d || cov p d) := by
  have pl := prp_lt p hp
  have pp := (prp_iff p).1 hp
  cases a with
  | nil =>
    refine ⟨hp, ?_, fun d => ?_⟩
    · intro q hq
      simp only [rst, List.head?_cons, Option.some.injEq] at hq
      subst hq; omega
    · simp [rst, cv]
  | cons q t =>
    have hq := ha.head
    have ql := prp_lt q hq
    have qq := (prp_iff q).1 hq
    have hqp := hh q rfl
    rw [rst_cons]
    by_cases c1 : p.1 ≤ en q
    · rw [if_pos c1]
      by_cases c2 : en q < en p
      · rw [if_pos c2]
        have e : en (q.1, p.2) = en p := rfl
        have hn : prp (q.1, p.2) = true := by rw [prp_iff]; dsimp only; omega
        refine ⟨?_, ?_, fun d => ?_⟩
        · cases t with
          | nil => exact hn
          | cons r t => exact ⟨hn, ha.2.1, ha.2.2⟩
        · intro r hr
          simp only [List.head?_cons, Option.some.injEq] at hr
          subst hr; exact hqp
        · rw [cv_cons, cv_cons, Bool.or_right_comm]
          congr 1
          rw [Bool.eq_iff_iff, Bool.or_eq_true, cov_iff _ hn, cov_iff _ hq, cov_iff _ hp, e]
          dsimp only
          omega
      · rw [if_neg c2]
        refine ⟨ha, ?_, fun d => ?_⟩
        · intro r hr
          simp only [List.head?_cons, Option.some.injEq] at hr
          subst hr; exact hqp
        · rw [cv_cons, Bool.or_right_comm]
          congr 1
          rw [Bool.eq_iff_iff, Bool.or_eq_true, cov_iff _ hq, cov_iff _ hp]
          omega
    · rw [if_neg c1]
      refine ⟨⟨hp, by omega, ha⟩, ?_, fun d => ?_⟩
      · intro r hr
        simp only [List.head?_cons, Option.some.injEq] at hr
        subst hr; omega
      · rw [cv_cons, Bool.or_comm]
theorem fold_ok (l : List (Int × Int)) (hs : l.Pairwise (fun a b => a.1 ≤ b.1)) (hl : ∀ p ∈ l, prp p = true) (a : List (Int × Int)) (ha : RC a) (hh : ∀ q, a.head? = some q → ∀ p ∈ l, q.1 ≤ p.1) :
    RC (l.foldl rst a) ∧ ∀ d, cv (l.foldl rst a) d = (cv a d || cv l d) := by
  induction l generalizing a with
  | nil => exact ⟨ha, fun d => by simp [cv]⟩
  | cons p t ih =>
    have hp := hl p (List.mem_cons_self ..)
    obtain ⟨r1, r2, r3⟩ := rst_ok a p ha hp (fun q hq => hh q hq p (List.mem_cons_self ..))
    rw [List.pairwise_cons] at hs
    obtain ⟨g1, g2⟩ := ih hs.2 (fun q hq => hl q (List.mem_cons_of_mem _ hq)) (rst a p) r1 (fun q hq x hx => by
      have := r2 q hq
      have := hs.1 x hx
      omega)
    refine ⟨g1, fun d => ?_⟩
    rw [List.foldl_cons, g2 d, r3 d, cv_cons, Bool.or_assoc]

/-- u is the union of l -/
def UnOf (l u : List (Int × Int)) : Prop := RC u.reverse ∧ ∀ d, cv u d = cv l d
theorem UnOf.uniq {l u v : List (Int × Int)} (h : UnOf l u) (g : UnOf l v) : u = v := by
  have e := RC.ext h.1 g.1 (fun d => by rw [cv_rev, cv_rev, h.2, g.2])
  have := congrArg List.reverse e
  simpa using this
theorem UnOf.of_fold {l s : List (Int × Int)} (hp : s.Perm l) (hs : s.Pairwise (fun a b => a.1 ≤ b.1)) (hl : ∀ p ∈ l, prp p = true) : UnOf l (s.foldl rst []).reverse := by
  obtain ⟨g1, g2⟩ := fold_ok s hs (fun p m => hl p (hp.mem_iff.1 m)) [] trivial (fun q hq => by simp at hq)
  refine ⟨by rw [List.reverse_reverse]; exact g1, fun d => ?_⟩
  rw [cv_rev, g2, cv_perm hp]
  simp [cv]
theorem UnOf.prps {l u : List (Int × Int)} (h : UnOf l u) : ∀ p ∈ u, prp p = true := fun p hp => h.1.prps p (by simpa using hp)
theorem UnOf.congr {l m u : List (Int × Int)} (h : UnOf l u) (e : ∀ d, cv l d = cv m d) : UnOf m u := ⟨h.1, fun d => by rw [h.2, e]⟩
theorem UnOf.self {l u : List (Int × Int)} (h : UnOf l u) : UnOf u u := ⟨h.1, fun _ => rfl⟩
theorem rst_len (a : List (Int × Int)) (p : Int × Int) : (rst a p).length ≤ a.length + 1 := by
  unfold rst
  split
  · simp
  · split
    · split <;> simp
    · simp
theorem fold_len (l a : List (Int × Int)) : (l.foldl rst a).length ≤ a.length + l.length := by
  induction l generalizing a with
  | nil => simp
  | cons p t ih => have := ih (rst a p); have := rst_len a p; simp only [List.foldl_cons, List.length_cons]; omega
end Go.Proofs.YtjebbmnjegndkaaGreatDoor
