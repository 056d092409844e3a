/- Plain facts on comparing fractions, and their floors. No program in sight. Under no condition. -/
import Derived.Test.YtdmddfhjfkdlnaaDoorPl
namespace Go.Proofs.YtdmddfhjfkdlnaaDoor

/-- what Compare returns for valid fractions -/
def cmp (a b c d : Int) : Int := if a = c ∧ b = d then 0 else if rat a b < rat c d then -1 else 1
theorem lt_cross {a b c d : Int} (h : vld a b = true) (h' : vld c d = true) : rat a b < rat c d ↔ a * d < c * b := by
  rw [Rat.lt_iff, rat_num h, rat_num h', rat_deni h, rat_deni h']
theorem le_cross {a b c d : Int} (h : vld a b = true) (h' : vld c d = true) : rat a b ≤ rat c d ↔ a * d ≤ c * b := by
  rw [Rat.le_iff, rat_num h, rat_num h', rat_deni h, rat_deni h']
theorem cmp_eq {a b c d : Int} (h : a = c ∧ b = d) : cmp a b c d = 0 := by unfold cmp; rw [if_pos h]
/-- the test by sizes, where the signs are alike -/
theorem cmp_same {a b c d : Int} (h : vld a b = true) (h' : vld c d = true) (hne : ¬ (a = c ∧ b = d)) (hs : decide (a < 0) = decide (c < 0)) :
    cmp a b c d = if (decide (a.natAbs * d.natAbs < c.natAbs * b.natAbs) != decide (a < 0)) = true then -1 else 1 := by
  unfold cmp
  rw [if_neg hne]
  have hx : ¬ a * d = c * b := fun e => by
    have h1 : rat a b ≤ rat c d := (le_cross h h').2 (by omega)
    have h2 : rat c d ≤ rat a b := (le_cross h' h).2 (by omega)
    exact hne (rat_inj h h' (Rat.le_antisymm h1 h2))
  obtain ⟨hb, _, _, _⟩ := vld_iff.1 h
  obtain ⟨hd, _, _, _⟩ := vld_iff.1 h'
  have e1 : ((a.natAbs * d.natAbs : Nat) : Int) = if a < 0 then -(a * d) else a * d := by
    rw [Int.natCast_mul, show ((d.natAbs : Nat) : Int) = d by omega]; split
    · rw [show ((a.natAbs : Nat) : Int) = -a by omega, Int.neg_mul]
    · rw [show ((a.natAbs : Nat) : Int) = a by omega]
  have e2 : ((c.natAbs * b.natAbs : Nat) : Int) = if c < 0 then -(c * b) else c * b := by
    rw [Int.natCast_mul, show ((b.natAbs : Nat) : Int) = b by omega]; split
    · rw [show ((c.natAbs : Nat) : Int) = -c by omega, Int.neg_mul]
    · rw [show ((c.natAbs : Nat) : Int) = c by omega]
  have key : (rat a b < rat c d) ↔ (decide (a.natAbs * d.natAbs < c.natAbs * b.natAbs) != decide (a < 0)) = true := by
    rw [lt_cross h h']
    generalize a * d = x at *
    generalize c * b = y at *
    generalize a.natAbs * d.natAbs = p at *
    generalize c.natAbs * b.natAbs = q at *
    by_cases ha : a < 0
    · have hc : c < 0 := by simpa [ha] using hs
      rw [if_pos ha] at e1
      rw [if_pos hc] at e2
      simp only [ha, decide_true, bne_iff_ne, ne_eq, decide_eq_true_eq]
      omega
    · have hc : ¬ c < 0 := by simpa [ha] using hs
      rw [if_neg ha] at e1
      rw [if_neg hc] at e2
      simp only [ha, decide_false, bne_iff_ne, ne_eq, decide_eq_false_iff_not]
      omega
  by_cases c1 : rat a b < rat c d
  · rw [if_pos c1, if_pos (key.1 c1)]
  · rw [if_neg c1, if_neg (fun e => c1 (key.2 e))]
theorem cmp_diff {a b c d : Int} (h : vld a b = true) (h' : vld c d = true) (hs : decide (a < 0) ≠ decide (c < 0)) : cmp a b c d = if a < 0 then -1 else 1 := by
  obtain ⟨hb, _, _, _⟩ := vld_iff.1 h
  obtain ⟨hd, _, _, _⟩ := vld_iff.1 h'
  have hne : ¬ (a = c ∧ b = d) := fun e => hs (by rw [e.1])
  unfold cmp
  rw [if_neg hne]
  by_cases ha : a < 0
  · have hc : ¬ c < 0 := fun e => hs (by simp [ha, e])
    rw [if_pos ha, if_pos]
    rw [lt_cross h h']
    have h1 : a * d < 0 := Int.mul_neg_of_neg_of_pos ha hd
    have h2 : 0 ≤ c * b := Int.mul_nonneg (by omega) (by omega)
    omega
  · have hc : c < 0 := by
      rcases Int.lt_or_le c 0 with e | e
      · exact e
      · exact absurd (by simp [ha]; omega) hs
    rw [if_neg ha, if_neg]
    rw [lt_cross h h']
    have h1 : c * b < 0 := Int.mul_neg_of_neg_of_pos hc hb
    have h2 : 0 ≤ a * d := Int.mul_nonneg (by omega) (by omega)
    omega
/-- the floor -/
def flr (a b : Int) : Int := a / b
theorem flr_step (a b : Int) (hb : 0 < b) : a.tdiv b - (if a.tmod b < 0 then 1 else 0) = flr a b := by
  unfold flr
  have h1 := Int.mul_tdiv_add_tmod a b
  have h2 := Int.mul_ediv_add_emod a b
  have h3 := Int.emod_nonneg a (show b ≠ 0 by omega)
  have h4 := Int.emod_lt_of_pos a hb
  rcases Int.lt_or_le a 0 with c | c
  · have e := Int.tdiv_eq_ediv (a := a) (b := b)
    have e2 := Int.tmod_eq_emod (a := a) (b := b)
    rw [e, e2]
    by_cases hd : b ∣ a
    · rw [if_pos (Or.inr hd), if_pos (Or.inr hd)]
      rw [if_neg (by omega)]; omega
    · have hn : ¬ (0 ≤ a ∨ b ∣ a) := by rintro (x | x); omega; exact hd x
      rw [if_neg hn, if_neg hn]
      have hs : b.sign = 1 := Int.sign_eq_one_of_pos hb
      rw [hs]
      have : a % b ≠ 0 := fun h => hd (Int.dvd_of_emod_eq_zero h)
      rw [if_pos (by omega)]; omega
  · rw [Int.tdiv_eq_ediv_of_nonneg c, Int.tmod_eq_emod_of_nonneg c, if_neg (by omega)]; omega
end Go.Proofs.YtdmddfhjfkdlnaaDoor
