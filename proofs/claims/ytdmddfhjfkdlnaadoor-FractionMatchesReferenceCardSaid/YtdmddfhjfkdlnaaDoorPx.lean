/- Plain facts on numbers as lists of binary digits. No program in sight. Under no condition. -/
namespace Go.Proofs.YtdmddfhjfkdlnaaDoor

/-- the binary digits of a number, the least one first -/
def bin (n : Nat) : List Nat := if h : n = 0 then [] else (n % 2) :: bin (n / 2)
  termination_by n
  decreasing_by omega
theorem bin_zero : bin 0 = [] := by rw [bin]; simp
theorem bin_pos {n : Nat} (h : n ≠ 0) : bin n = (n % 2) :: bin (n / 2) := by rw [bin, dif_neg h]
/-- the value of digits -/
def val : List Nat → Nat
  | [] => 0
  | d :: l => d + 2 * val l
/-- digits -/
def Dg (l : List Nat) : Prop := ∀ d ∈ l, d ≤ 1
theorem Dg.cons {d : Nat} {l : List Nat} (h : Dg (d :: l)) : d ≤ 1 ∧ Dg l := ⟨h d (List.mem_cons_self ..), fun x hx => h x (List.mem_cons_of_mem _ hx)⟩
theorem bin_dg (n : Nat) : Dg (bin n) := by
  induction n using Nat.strongRecOn with
  | _ n ih =>
    by_cases h : n = 0
    · subst h; rw [bin_zero]; intro d hd; cases hd
    · rw [bin_pos h]
      intro d hd
      rcases List.mem_cons.1 hd with rfl | hd
      · omega
      · exact ih (n / 2) (by omega) d hd
theorem val_bin (n : Nat) : val (bin n) = n := by
  induction n using Nat.strongRecOn with
  | _ n ih =>
    by_cases h : n = 0
    · subst h; rw [bin_zero]; rfl
    · rw [bin_pos h, val, ih (n / 2) (by omega)]; omega
theorem bin_inj {x y : Nat} (h : bin x = bin y) : x = y := by rw [← val_bin x, h, val_bin]
theorem val_app (l r : List Nat) : val (l ++ r) = val l + 2 ^ l.length * val r := by
  induction l with
  | nil => simp [val]
  | cons d l ih => rw [List.cons_append, val, val, ih, List.length_cons, Nat.pow_succ, Nat.mul_add]; rw [Nat.mul_comm (2 ^ l.length) 2, Nat.mul_assoc]; omega
theorem val_lt (l : List Nat) (h : Dg l) : val l < 2 ^ l.length := by
  induction l with
  | nil => simp [val]
  | cons d l ih =>
    obtain ⟨h1, h2⟩ := h.cons
    have := ih h2
    rw [val, List.length_cons, Nat.pow_succ]; omega
/-- the digits without the zeros at the end -/
def trm (l : List Nat) : List Nat := bin (val l)
theorem trm_bin (n : Nat) : trm (bin n) = bin n := by unfold trm; rw [val_bin]
theorem trm_snoc_zero (l : List Nat) : trm (l ++ [0]) = trm l := by
  unfold trm; rw [val_app]; simp [val]
/-- digits that end in a one are the digits of their value -/
theorem bin_val_one (l : List Nat) (h : Dg l) : bin (val (l ++ [1])) = l ++ [1] := by
  induction l with
  | nil => decide +kernel
  | cons d l ih =>
    obtain ⟨h1, h2⟩ := h.cons
    have i := ih h2
    have hp : 0 < val (l ++ [1]) := by rw [val_app]; have := Nat.two_pow_pos l.length; simp only [val]; omega
    rw [List.cons_append, val, bin_pos (by omega)]
    have e1 : (d + 2 * val (l ++ [1])) % 2 = d := by omega
    have e2 : (d + 2 * val (l ++ [1])) / 2 = val (l ++ [1]) := by omega
    rw [e1, e2, i]
theorem trm_one (l : List Nat) (h : Dg l) : trm (l ++ [1]) = l ++ [1] := bin_val_one l h
theorem bin_len (n : Nat) : ∀ k : Nat, n < 2 ^ k → (bin n).length ≤ k := by
  induction n using Nat.strongRecOn with
  | _ n ih =>
    intro k hk
    by_cases h : n = 0
    · subst h; rw [bin_zero]; simp
    · rw [bin_pos h, List.length_cons]
      match k with
      | 0 => simp at hk; omega
      | k + 1 =>
        have := ih (n / 2) (by omega) k (by rw [Nat.pow_succ] at hk; omega)
        omega
theorem bin_len_lt {x y : Nat} (h : (bin x).length < (bin y).length) : x < y := by
  rcases Nat.lt_or_ge x y with c | c
  · exact c
  · exfalso
    have hx := val_lt (bin x) (bin_dg x)
    rw [val_bin] at hx
    have := bin_len y (bin x).length (by omega)
    omega
/-- the order of digits of one length, by the first ones from the end that part them -/
theorem val_part (p q : List Nat) (r : List Nat) (a b : Nat) (hl : p.length = q.length) (hp : Dg p) (hq : Dg q) (ha : a ≤ 1) (hb : b ≤ 1) (hne : a ≠ b) : (val (p ++ a :: r) < val (q ++ b :: r)) ↔ a < b := by
  have h1 := val_lt p hp
  have h2 := val_lt q hq
  rw [val_app, val_app, val, val, hl]
  rw [hl] at h1
  have m1 : 2 ^ q.length * (a + 2 * val r) = 2 ^ q.length * a + 2 ^ q.length * (2 * val r) := Nat.mul_add _ _ _
  have m2 : 2 ^ q.length * (b + 2 * val r) = 2 ^ q.length * b + 2 ^ q.length * (2 * val r) := Nat.mul_add _ _ _
  rw [m1, m2]
  generalize 2 ^ q.length * (2 * val r) = z
  generalize 2 ^ q.length = t at *
  have : (a = 0 ∧ b = 1) ∨ (a = 1 ∧ b = 0) := by omega
  rcases this with ⟨rfl, rfl⟩ | ⟨rfl, rfl⟩
  · simp; omega
  · simp; omega
end Go.Proofs.YtdmddfhjfkdlnaaDoor
