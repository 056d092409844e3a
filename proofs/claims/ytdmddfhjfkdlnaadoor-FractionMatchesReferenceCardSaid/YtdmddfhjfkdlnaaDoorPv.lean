/- Plain facts: the reference's sums, products and orders are those of the numbers. No program in sight. Under no condition. -/
import Derived.Test.YtdmddfhjfkdlnaaDoorPb
namespace Go.Proofs.YtdmddfhjfkdlnaaDoor

theorem rat_divInt {n d : Int} (h : 0 < d) : rat n d = Rat.divInt n d := by
  unfold rat
  rw [← Rat.divInt_ofNat]
  congr 1; omega
theorem mul_divInt {a b c d : Int} (hb : 0 < b) (hd : 0 < d) : rat a b * rat c d = Rat.divInt (a * c) (b * d) := by
  rw [rat_divInt hb, rat_divInt hd, Rat.divInt_mul_divInt]
theorem add_divInt {a b c d : Int} (hb : 0 < b) (hd : 0 < d) : rat a b + rat c d = Rat.divInt (a * d + c * b) (b * d) := by
  rw [rat_divInt hb, rat_divInt hd, Rat.divInt_add_divInt _ _ (by omega) (by omega)]
theorem den_cast {b d : Int} (hb : 0 < b) (hd : 0 < d) : ((b.natAbs * d.natAbs : Nat) : Int) = b * d := by
  rw [Int.natCast_mul, show (b.natAbs : Int) = b by omega, show (d.natAbs : Int) = d by omega]
theorem abs_cast (a : Int) : (a.natAbs : Int) = if a < 0 then -a else a := by split <;> omega
theorem prod_cast {a d : Int} (hd : 0 < d) : ((a.natAbs * d.natAbs : Nat) : Int) = if a < 0 then -(a * d) else a * d := by
  rw [Int.natCast_mul, show ((d.natAbs : Nat) : Int) = d by omega]; split
  · rw [show ((a.natAbs : Nat) : Int) = -a by omega, Int.neg_mul]
  · rw [show ((a.natAbs : Nat) : Int) = a by omega]
/-- the product -/
theorem mul_ref {a b c d : Int} (hb : 0 < b) (hd : 0 < d) (sa sc neg : Bool) (ha : decide (a < 0) = sa) (hc : decide (c < 0) = sc) (hn : (sa != sc) = neg) :
    rat a b * rat c d = Rat.divInt (if neg then -((a.natAbs * c.natAbs : Nat) : Int) else ((a.natAbs * c.natAbs : Nat) : Int)) ((b.natAbs * d.natAbs : Nat) : Int) := by
  rw [mul_divInt hb hd, den_cast hb hd]
  congr 1
  rw [Int.natCast_mul, abs_cast, abs_cast]
  subst hn ha hc
  by_cases h1 : a < 0 <;> by_cases h2 : c < 0 <;> simp [h1, h2] <;> grind
/-- the sum of numbers of one sign -/
theorem add_ref_same {a b c d : Int} (hb : 0 < b) (hd : 0 < d) (s : Bool) (ha : decide (a < 0) = s) (hc : decide (c < 0) = s) :
    rat a b + rat c d = Rat.divInt (if s then -((a.natAbs * d.natAbs + c.natAbs * b.natAbs : Nat) : Int) else ((a.natAbs * d.natAbs + c.natAbs * b.natAbs : Nat) : Int)) ((b.natAbs * d.natAbs : Nat) : Int) := by
  rw [add_divInt hb hd, den_cast hb hd, Int.natCast_add, prod_cast hd, prod_cast hb]
  congr 1
  generalize a * d = x
  generalize c * b = y
  subst ha
  by_cases h1 : a < 0 <;> by_cases h2 : c < 0 <;> simp [h1, h2] at hc ⊢ <;> omega
/-- the sum of numbers of two signs -/
theorem add_ref_diff {a b c d : Int} (hb : 0 < b) (hd : 0 < d) (sa sc : Bool) (ha : decide (a < 0) = sa) (hc : decide (c < 0) = sc) (hne : sa ≠ sc) :
    (a.natAbs * d.natAbs < c.natAbs * b.natAbs → rat a b + rat c d = Rat.divInt (if sc then -((c.natAbs * b.natAbs - a.natAbs * d.natAbs : Nat) : Int) else ((c.natAbs * b.natAbs - a.natAbs * d.natAbs : Nat) : Int)) ((b.natAbs * d.natAbs : Nat) : Int))
    ∧ (¬ a.natAbs * d.natAbs < c.natAbs * b.natAbs → rat a b + rat c d = Rat.divInt (if sa then -((a.natAbs * d.natAbs - c.natAbs * b.natAbs : Nat) : Int) else ((a.natAbs * d.natAbs - c.natAbs * b.natAbs : Nat) : Int)) ((b.natAbs * d.natAbs : Nat) : Int)) := by
  have p1 := prod_cast (a := a) hd
  have p2 := prod_cast (a := c) hb
  rw [add_divInt hb hd, den_cast hb hd]
  generalize a * d = x at *
  generalize c * b = y at *
  generalize a.natAbs * d.natAbs = p at *
  generalize c.natAbs * b.natAbs = q at *
  subst ha hc
  by_cases h1 : a < 0 <;> by_cases h2 : c < 0 <;> simp [h1, h2] at hne p1 p2 ⊢
  · refine ⟨fun h => ?_, fun h => ?_⟩ <;> congr 1 <;> omega
  · refine ⟨fun h => ?_, fun h => ?_⟩ <;> congr 1 <;> omega
/-- the order of numbers of one sign -/
theorem cmp_ref {a b c d : Int} (h : vld a b = true) (h' : vld c d = true) (s : Bool) (ha : decide (a < 0) = s) (hc : decide (c < 0) = s) (P Q : Nat) (hP : P = if s then c.natAbs * b.natAbs else a.natAbs * d.natAbs) (hQ : Q = if s then a.natAbs * d.natAbs else c.natAbs * b.natAbs) :
    cmp a b c d = if P < Q then -1 else if Q < P then 1 else 0 := by
  obtain ⟨hb, _, _, _⟩ := vld_iff.1 h
  obtain ⟨hd, _, _, _⟩ := vld_iff.1 h'
  have p1 := prod_cast (a := a) hd
  have p2 := prod_cast (a := c) hb
  have l1 := lt_cross h h'
  have l2 := le_cross h h'
  have l3 := le_cross h' h
  have hcmp : cmp a b c d = if a * d < c * b then -1 else if c * b < a * d then 1 else 0 := by
    unfold cmp
    by_cases e : a = c ∧ b = d
    · obtain ⟨rfl, rfl⟩ := e
      simp
    · rw [if_neg e]
      have hne : ¬ a * d = c * b := fun e' => e (rat_inj h h' (Rat.le_antisymm (l2.2 (by omega)) (l3.2 (by omega))))
      by_cases k : a * d < c * b
      · rw [if_pos (l1.2 k), if_pos k]
      · rw [if_neg (fun x => k (l1.1 x)), if_neg k, if_pos (by omega)]
  rw [hcmp]
  clear l1 l2 l3 hcmp
  generalize a * d = x at *
  generalize c * b = y at *
  generalize a.natAbs * d.natAbs = p at *
  generalize c.natAbs * b.natAbs = q at *
  subst ha hP hQ
  by_cases h1 : a < 0 <;> by_cases h2 : c < 0 <;> simp [h1, h2] at hc p1 p2 ⊢
  all_goals (subst_vars; repeat' split) <;> omega
/-- the floor -/
theorem flr_ref (a b : Int) (hb : 0 < b) : flr a b = if a < a.tdiv b * b then a.tdiv b - 1 else a.tdiv b := by
  have hf := flr_step a b hb
  have e := Int.mul_tdiv_add_tmod a b
  rw [Int.mul_comm] at e
  rw [← hf]
  by_cases h : a.tmod b < 0
  · rw [if_pos h, if_pos (by omega)]
  · rw [if_neg h, if_neg (by omega)]; omega
end Go.Proofs.YtdmddfhjfkdlnaaDoor
