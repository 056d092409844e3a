/- Plain facts on fractions. No program in sight. Under no condition. -/
namespace Go.Proofs.YtdmddfhjfkdlnaaDoor

/-- a fraction in lowest terms, within its limits -/
def vld (n d : Int) : Bool := decide (0 < d ∧ d ≤ 4611686018427387904 ∧ n.natAbs ≤ 4611686018427387904 ∧ Nat.gcd n.natAbs d.natAbs = 1)
theorem vld_iff {n d : Int} : vld n d = true ↔ 0 < d ∧ d ≤ 4611686018427387904 ∧ n.natAbs ≤ 4611686018427387904 ∧ Nat.gcd n.natAbs d.natAbs = 1 := by
  unfold vld; rw [decide_eq_true_iff]
/-- its number -/
def rat (n d : Int) : Rat := mkRat n d.natAbs
theorem rat_num {n d : Int} (h : vld n d = true) : (rat n d).num = n := by
  obtain ⟨a, b, c, g⟩ := vld_iff.1 h
  unfold rat; rw [Rat.num_mkRat, if_neg (by omega), Nat.gcd_comm, g]; simp
theorem rat_den {n d : Int} (h : vld n d = true) : (rat n d).den = d.natAbs := by
  obtain ⟨a, b, c, g⟩ := vld_iff.1 h
  unfold rat; rw [Rat.den_mkRat, if_neg (by omega), Nat.gcd_comm, g]; simp
theorem rat_deni {n d : Int} (h : vld n d = true) : ((rat n d).den : Int) = d := by
  obtain ⟨a, b, c, g⟩ := vld_iff.1 h
  rw [rat_den h]; omega
/-- a number that is representable -/
def fit (r : Rat) : Bool := decide (r.num.natAbs ≤ 4611686018427387904 ∧ r.den ≤ 4611686018427387904)
theorem fit_iff {r : Rat} : fit r = true ↔ r.num.natAbs ≤ 4611686018427387904 ∧ r.den ≤ 4611686018427387904 := by
  unfold fit; rw [decide_eq_true_iff]
/-- the terms and the error that are returned for a number -/
def rN (r : Rat) : Int := if fit r then r.num else 0
def rD (r : Rat) : Int := if fit r then r.den else 0
def rE (r : Rat) : Int := if fit r then 0 else 9
theorem r_yes {r : Rat} (h : fit r = true) : rN r = r.num ∧ rD r = r.den ∧ rE r = 0 := by unfold rN rD rE; simp [h]
theorem r_no {r : Rat} (h : fit r = false) : rN r = 0 ∧ rD r = 0 ∧ rE r = 9 := by unfold rN rD rE; simp [h]
theorem fit_vld {r : Rat} (h : fit r = true) : vld r.num r.den = true := by
  obtain ⟨a, b⟩ := fit_iff.1 h
  have := r.den_pos
  exact vld_iff.2 ⟨by omega, by omega, a, r.reduced⟩
theorem rat_self (r : Rat) : rat r.num r.den = r := by unfold rat; exact Rat.mkRat_self r
theorem vld_fit {n d : Int} (h : vld n d = true) : fit (rat n d) = true := by
  obtain ⟨a, b, c, g⟩ := vld_iff.1 h
  rw [fit_iff, rat_num h, rat_den h]
  exact ⟨c, by omega⟩
theorem r_vld {n d : Int} (h : vld n d = true) : rN (rat n d) = n ∧ rD (rat n d) = d ∧ rE (rat n d) = 0 := by
  obtain ⟨a, b, c⟩ := r_yes (vld_fit h)
  exact ⟨a.trans (rat_num h), b.trans (rat_deni h), c⟩
theorem rat_inj {a b c d : Int} (h : vld a b = true) (h' : vld c d = true) (e : rat a b = rat c d) : a = c ∧ b = d := by
  have := rat_num h; have := rat_num h'; have := rat_deni h; have := rat_deni h'
  rw [e] at *
  exact ⟨by omega, by omega⟩

theorem nabs (c : Prop) [Decidable c] (n : Nat) : (if c then -(n : Int) else n).natAbs = n := by split <;> omega
/-- a number by its terms -/
theorem of_cross (r : Rat) (n : Int) (d : Nat) (hd : d ≠ 0) (hc : Nat.gcd n.natAbs d = 1) (N : Int) (D : Nat) (hD : D ≠ 0) (hr : r = mkRat N D) (hx : n * D = N * d) : r.num = n ∧ r.den = d := by
  have e : (⟨n, d, hd, hc⟩ : Rat) = mkRat n d := Rat.mk_eq_mkRat _ _ _ _
  have e2 : mkRat n d = mkRat N D := (Rat.mkRat_eq_iff hd hD).2 hx
  rw [hr, ← e2, ← e]; exact ⟨rfl, rfl⟩

/-- the terms of a quotient of two integers -/
theorem of_terms (n d : Int) (hd : d ≠ 0) :
    (Rat.divInt n d).num = (if (decide (n < 0)) != (decide (d < 0)) then -((n.natAbs / Nat.gcd n.natAbs d.natAbs : Nat) : Int) else ((n.natAbs / Nat.gcd n.natAbs d.natAbs : Nat) : Int))
    ∧ (Rat.divInt n d).den = d.natAbs / Nat.gcd n.natAbs d.natAbs := by
  obtain ⟨s, hs⟩ : ∃ s : Int, s = (if (decide (n < 0)) != (decide (d < 0)) then -((n.natAbs / Nat.gcd n.natAbs d.natAbs : Nat) : Int) else ((n.natAbs / Nat.gcd n.natAbs d.natAbs : Nat) : Int)) := ⟨_, rfl⟩
  rw [← hs]
  have hg : 0 < Nat.gcd n.natAbs d.natAbs := Nat.gcd_pos_of_pos_right _ (by omega)
  have sa : s.natAbs = n.natAbs / Nat.gcd n.natAbs d.natAbs := by rw [hs]; exact nabs _ _
  have m1 : n.natAbs / Nat.gcd n.natAbs d.natAbs * Nat.gcd n.natAbs d.natAbs = n.natAbs := Nat.div_mul_cancel (Nat.gcd_dvd_left _ _)
  have m2 : d.natAbs / Nat.gcd n.natAbs d.natAbs * Nat.gcd n.natAbs d.natAbs = d.natAbs := Nat.div_mul_cancel (Nat.gcd_dvd_right _ _)
  have cop := Nat.coprime_div_gcd_div_gcd hg
  have hcop : Nat.gcd s.natAbs (d.natAbs / Nat.gcd n.natAbs d.natAbs) = 1 := by rw [sa]; exact cop
  have hnz : d.natAbs / Nat.gcd n.natAbs d.natAbs ≠ 0 := by intro h; rw [h] at m2; omega
  generalize Nat.gcd n.natAbs d.natAbs = g at *
  generalize n.natAbs / g = n' at *
  generalize d.natAbs / g = d' at *
  have hr : Rat.divInt n d = mkRat (if d < 0 then -n else n) d.natAbs := by
    rcases Int.lt_or_le d 0 with c | c
    · rw [if_pos c, ← Rat.neg_divInt_neg, ← Rat.divInt_ofNat]; congr 1; omega
    · rw [if_neg (by omega), ← Rat.divInt_ofNat]; congr 1; omega
  refine of_cross _ s d' hnz hcop _ _ (by omega) hr ?_
  have k1 : (n' : Int) * g = n.natAbs := by rw [← Int.natCast_mul, m1]
  have k2 : (d' : Int) * g = d.natAbs := by rw [← Int.natCast_mul, m2]
  rw [← k2, hs]
  rcases Int.lt_or_le d 0 with c | c <;> rcases Int.lt_or_le n 0 with c' | c'
  · have a1 : decide (n < 0) = true := by simpa using c'
    have a2 : decide (d < 0) = true := by simpa using c
    have e : -n = (n' : Int) * g := by omega
    have h1 : (if d < 0 then -n else n) = (n' : Int) * g := by rw [if_pos c, e]
    rw [a1, a2, h1, if_neg (by decide)]; grind
  · have a1 : decide (n < 0) = false := by simpa using c'
    have a2 : decide (d < 0) = true := by simpa using c
    have e : n = (n' : Int) * g := by omega
    have h1 : (if d < 0 then -n else n) = -((n' : Int) * g) := by rw [if_pos c, e]
    rw [a1, a2, h1, if_pos (by decide)]; grind
  · have a1 : decide (n < 0) = true := by simpa using c'
    have a2 : decide (d < 0) = false := by simpa using c
    have e : n = -((n' : Int) * g) := by omega
    have h1 : (if d < 0 then -n else n) = -((n' : Int) * g) := by rw [if_neg (by omega), e]
    rw [a1, a2, h1, if_pos (by decide)]; grind
  · have a1 : decide (n < 0) = false := by simpa using c'
    have a2 : decide (d < 0) = false := by simpa using c
    have e : n = (n' : Int) * g := by omega
    have h1 : (if d < 0 then -n else n) = (n' : Int) * g := by rw [if_neg (by omega), e]
    rw [a1, a2, h1, if_neg (by decide)]; grind

/-- the terms of a product -/
theorem mul_terms (a b : Rat) :
    (a * b).num = (if (decide (a.num < 0)) != (decide (b.num < 0)) then -((a.num.natAbs / Nat.gcd a.num.natAbs b.den * (b.num.natAbs / Nat.gcd b.num.natAbs a.den) : Nat) : Int) else ((a.num.natAbs / Nat.gcd a.num.natAbs b.den * (b.num.natAbs / Nat.gcd b.num.natAbs a.den) : Nat) : Int))
    ∧ (a * b).den = a.den / Nat.gcd b.num.natAbs a.den * (b.den / Nat.gcd a.num.natAbs b.den) := by
  obtain ⟨s, hs⟩ : ∃ s : Int, s = (if (decide (a.num < 0)) != (decide (b.num < 0)) then -((a.num.natAbs / Nat.gcd a.num.natAbs b.den * (b.num.natAbs / Nat.gcd b.num.natAbs a.den) : Nat) : Int) else ((a.num.natAbs / Nat.gcd a.num.natAbs b.den * (b.num.natAbs / Nat.gcd b.num.natAbs a.den) : Nat) : Int)) := ⟨_, rfl⟩
  rw [← hs]
  have ha := a.den_pos
  have hb := b.den_pos
  have ra := a.reduced
  have rb := b.reduced
  have hx : 0 < Nat.gcd a.num.natAbs b.den := Nat.gcd_pos_of_pos_right _ hb
  have hy : 0 < Nat.gcd b.num.natAbs a.den := Nat.gcd_pos_of_pos_right _ ha
  have sa : s.natAbs = a.num.natAbs / Nat.gcd a.num.natAbs b.den * (b.num.natAbs / Nat.gcd b.num.natAbs a.den) := by rw [hs]; exact nabs _ _
  have dv1 := Nat.gcd_dvd_left a.num.natAbs b.den
  have dv2 := Nat.gcd_dvd_right a.num.natAbs b.den
  have dv3 := Nat.gcd_dvd_left b.num.natAbs a.den
  have dv4 := Nat.gcd_dvd_right b.num.natAbs a.den
  have m1 : a.num.natAbs / Nat.gcd a.num.natAbs b.den * Nat.gcd a.num.natAbs b.den = a.num.natAbs := Nat.div_mul_cancel dv1
  have m2 : b.den / Nat.gcd a.num.natAbs b.den * Nat.gcd a.num.natAbs b.den = b.den := Nat.div_mul_cancel dv2
  have m3 : b.num.natAbs / Nat.gcd b.num.natAbs a.den * Nat.gcd b.num.natAbs a.den = b.num.natAbs := Nat.div_mul_cancel dv3
  have m4 : a.den / Nat.gcd b.num.natAbs a.den * Nat.gcd b.num.natAbs a.den = a.den := Nat.div_mul_cancel dv4
  have hcop : Nat.Coprime (a.num.natAbs / Nat.gcd a.num.natAbs b.den * (b.num.natAbs / Nat.gcd b.num.natAbs a.den)) (a.den / Nat.gcd b.num.natAbs a.den * (b.den / Nat.gcd a.num.natAbs b.den)) := by
    rw [Nat.coprime_mul_iff_left]
    refine ⟨Nat.coprime_mul_iff_right.2 ⟨?_, ?_⟩, Nat.coprime_mul_iff_right.2 ⟨?_, ?_⟩⟩
    · exact (ra.coprime_div_left dv1).coprime_div_right dv4
    · exact Nat.coprime_div_gcd_div_gcd hx
    · exact Nat.coprime_div_gcd_div_gcd hy
    · exact (rb.coprime_div_left dv3).coprime_div_right dv2
  rw [← sa] at hcop
  have z1 : a.den / Nat.gcd b.num.natAbs a.den ≠ 0 := by intro h; rw [h] at m4; omega
  have z2 : b.den / Nat.gcd a.num.natAbs b.den ≠ 0 := by intro h; rw [h] at m2; omega
  generalize Nat.gcd a.num.natAbs b.den = x at *
  generalize Nat.gcd b.num.natAbs a.den = y at *
  generalize a.num.natAbs / x = a' at *
  generalize b.num.natAbs / y = c' at *
  generalize hbd : b.den / x = d' at *
  generalize had : a.den / y = b' at *
  refine of_cross _ s (b' * d') (Nat.mul_ne_zero z1 z2) hcop _ _ (Nat.mul_ne_zero (by omega) (by omega)) (Rat.mul_def' a b) ?_
  have k1 : (a' : Int) * x = a.num.natAbs := by rw [← Int.natCast_mul, m1]
  have k2 : (d' : Int) * x = b.den := by rw [← Int.natCast_mul, m2]
  have k3 : (c' : Int) * y = b.num.natAbs := by rw [← Int.natCast_mul, m3]
  have k4 : (b' : Int) * y = a.den := by rw [← Int.natCast_mul, m4]
  rw [Int.natCast_mul, Int.natCast_mul, ← k2, ← k4, hs, Int.natCast_mul]
  rcases Int.lt_or_le a.num 0 with c | c <;> rcases Int.lt_or_le b.num 0 with c2 | c2
  · have a1 : decide (a.num < 0) = true := by simpa using c
    have a2 : decide (b.num < 0) = true := by simpa using c2
    have e1 : a.num = -((a' : Int) * x) := by omega
    have e2 : b.num = -((c' : Int) * y) := by omega
    rw [a1, a2, if_neg (by decide), e1, e2]; grind
  · have a1 : decide (a.num < 0) = true := by simpa using c
    have a2 : decide (b.num < 0) = false := by simpa using c2
    have e1 : a.num = -((a' : Int) * x) := by omega
    have e2 : b.num = ((c' : Int) * y) := by omega
    rw [a1, a2, if_pos (by decide), e1, e2]; grind
  · have a1 : decide (a.num < 0) = false := by simpa using c
    have a2 : decide (b.num < 0) = true := by simpa using c2
    have e1 : a.num = ((a' : Int) * x) := by omega
    have e2 : b.num = -((c' : Int) * y) := by omega
    rw [a1, a2, if_pos (by decide), e1, e2]; grind
  · have a1 : decide (a.num < 0) = false := by simpa using c
    have a2 : decide (b.num < 0) = false := by simpa using c2
    have e1 : a.num = ((a' : Int) * x) := by omega
    have e2 : b.num = ((c' : Int) * y) := by omega
    rw [a1, a2, if_neg (by decide), e1, e2]; grind

/-- the terms of a sum, S the sum over the least common denominator -/
theorem add_terms (a b : Rat) (g : Nat) (hg : g = Nat.gcd a.den b.den) (S : Int) (hS : S = a.num * ((b.den / g : Nat) : Int) + b.num * ((a.den / g : Nat) : Int)) (x : Nat) (hx : x = Nat.gcd S.natAbs g) :
    (a + b).num = (if S < 0 then -((S.natAbs / x : Nat) : Int) else ((S.natAbs / x : Nat) : Int)) ∧ (a + b).den = a.den / g * (b.den / x) := by
  have ha := a.den_pos
  have hb := b.den_pos
  have aux : S.natAbs.gcd g = S.natAbs.gcd (a.den / g * b.den) := by
    have := Rat.add.aux a b hg rfl rfl
    rw [hS]; exact this
  have hg0 : 0 < g := by rw [hg]; exact Nat.gcd_pos_of_pos_right _ hb
  have dvb : g ∣ b.den := by rw [hg]; exact Nat.gcd_dvd_right _ _
  have dva : g ∣ a.den := by rw [hg]; exact Nat.gcd_dvd_left _ _
  have hx0 : 0 < x := by rw [hx]; exact Nat.gcd_pos_of_pos_right _ hg0
  have dxg : x ∣ g := by rw [hx]; exact Nat.gcd_dvd_right _ _
  have dxS : x ∣ S.natAbs := by rw [hx]; exact Nat.gcd_dvd_left _ _
  have dxb : x ∣ b.den := Nat.dvd_trans dxg dvb
  have cop : Nat.Coprime (S.natAbs / x) (a.den / g * (b.den / x)) := by
    have e : a.den / g * (b.den / x) = a.den / g * b.den / x := (Nat.mul_div_assoc _ dxb).symm
    rw [e, hx, aux]
    exact Nat.coprime_div_gcd_div_gcd (by rw [← aux, ← hx]; exact hx0)
  have m1 : S.natAbs / x * x = S.natAbs := Nat.div_mul_cancel dxS
  have m2 : b.den / x * x = b.den := Nat.div_mul_cancel dxb
  have m3 : a.den / g * g = a.den := Nat.div_mul_cancel dva
  have m4 : b.den / g * g = b.den := Nat.div_mul_cancel dvb
  have z1 : a.den / g ≠ 0 := by intro h; rw [h] at m3; omega
  have z2 : b.den / x ≠ 0 := by intro h; rw [h] at m2; omega
  obtain ⟨s, hs⟩ : ∃ s : Int, s = (if S < 0 then -((S.natAbs / x : Nat) : Int) else ((S.natAbs / x : Nat) : Int)) := ⟨_, rfl⟩
  rw [← hs]
  have sa : s.natAbs = S.natAbs / x := by rw [hs]; exact nabs _ _
  rw [← sa] at cop
  refine of_cross _ s _ (Nat.mul_ne_zero z1 z2) cop _ _ (Nat.mul_ne_zero (by omega) (by omega)) (Rat.add_def' a b) ?_
  have k0 : s * (x : Int) = S := by
    have : ((S.natAbs / x : Nat) : Int) * (x : Int) = S.natAbs := by rw [← Int.natCast_mul, m1]
    rw [hs]; split
    · rw [Int.neg_mul]; omega
    · omega
  clear hs sa cop aux hx dxg dxS m1
  generalize hbx : b.den / x = u at *
  generalize hbg : b.den / g = v at *
  generalize hag : a.den / g = t at *
  have k2 : (u : Int) * x = b.den := by rw [← Int.natCast_mul, m2]
  have k3 : (t : Int) * g = a.den := by rw [← Int.natCast_mul, m3]
  have k4 : (v : Int) * g = b.den := by rw [← Int.natCast_mul, m4]
  rw [Int.natCast_mul, Int.natCast_mul]
  have e1 : a.num * (b.den : Int) + b.num * (a.den : Int) = S * g := by rw [hS, ← k3, ← k4]; grind
  rw [e1, ← k0, ← k3, ← k2]
  grind

/-- what made returns -/
def mdN (neg : Bool) (n d : Nat) : Int := if n ≤ 4611686018427387904 ∧ d ≤ 4611686018427387904 then (if neg then -(n : Int) else n) else 0
def mdD (n d : Nat) : Int := if n ≤ 4611686018427387904 ∧ d ≤ 4611686018427387904 then d else 0
def mdE (n d : Nat) : Int := if n ≤ 4611686018427387904 ∧ d ≤ 4611686018427387904 then 0 else 9
/-- a quotient of 64 bits, or one that is too great -/
def ov (a n : Nat) : Nat := if n ≤ a / 18446744073709551616 then 4611686018427387905 else a / n
theorem ov_le {a n : Nat} (hn : 0 < n) : (ov a n ≤ 4611686018427387904 ↔ a / n ≤ 4611686018427387904) ∧ (ov a n ≤ 4611686018427387904 → ov a n = a / n) := by
  unfold ov
  split
  · rename_i h
    rw [Nat.le_div_iff_mul_le (by decide)] at h
    have : 18446744073709551616 ≤ a / n := by rw [Nat.le_div_iff_mul_le hn, Nat.mul_comm]; exact h
    exact ⟨by omega, by omega⟩
  · exact ⟨Iff.rfl, fun _ => rfl⟩
theorem md_eq {r : Rat} {neg : Bool} {n d : Nat} (hn : r.num = if neg then -(n : Int) else n) (hd : r.den = d) : mdN neg n d = rN r ∧ mdD n d = rD r ∧ mdE n d = rE r := by
  have hf : fit r = decide (n ≤ 4611686018427387904 ∧ d ≤ 4611686018427387904) := by
    unfold fit
    have : r.num.natAbs = n := by rw [hn]; exact nabs _ _
    rw [this, hd]
  unfold mdN mdD mdE rN rD rE
  rw [hf, hn, hd]
  simp only [decide_eq_true_eq, and_self]
theorem md_ov {neg : Bool} {a n b m : Nat} (hn : 0 < n) (hm : 0 < m) : mdN neg (ov a n) (ov b m) = mdN neg (a / n) (b / m) ∧ mdD (ov a n) (ov b m) = mdD (a / n) (b / m) ∧ mdE (ov a n) (ov b m) = mdE (a / n) (b / m) := by
  obtain ⟨i1, e1⟩ := ov_le (a := a) hn
  obtain ⟨i2, e2⟩ := ov_le (a := b) hm
  unfold mdN mdD mdE
  by_cases c : ov a n ≤ 4611686018427387904 ∧ ov b m ≤ 4611686018427387904
  · rw [if_pos c, if_pos c, if_pos c, if_pos (And.intro (i1.1 c.1) (i2.1 c.2)), if_pos (And.intro (i1.1 c.1) (i2.1 c.2)), if_pos (And.intro (i1.1 c.1) (i2.1 c.2)), e1 c.1, e2 c.2]
    exact ⟨rfl, rfl, rfl⟩
  · have c' : ¬(a / n ≤ 4611686018427387904 ∧ b / m ≤ 4611686018427387904) := fun h => c ⟨i1.2 h.1, i2.2 h.2⟩
    rw [if_neg c, if_neg c, if_neg c, if_neg c', if_neg c', if_neg c']
    exact ⟨rfl, rfl, rfl⟩
end Go.Proofs.YtdmddfhjfkdlnaaDoor
