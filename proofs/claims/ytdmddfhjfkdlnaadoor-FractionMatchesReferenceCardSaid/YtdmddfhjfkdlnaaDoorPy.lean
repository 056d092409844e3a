/- Plain facts on sums, differences and shifts of binary digits. No program in sight. Under no condition. -/
import Derived.Test.YtdmddfhjfkdlnaaDoorPx
namespace Go.Proofs.YtdmddfhjfkdlnaaDoor

theorem bin_drop (x i : Nat) : (bin x).drop i = bin (x / 2 ^ i) := by
  induction i generalizing x with
  | zero => simp
  | succ i ih =>
    by_cases h : x = 0
    · subst h; rw [bin_zero]; simp [bin_zero]
    · rw [bin_pos h, List.drop_succ_cons, ih, Nat.pow_succ, Nat.mul_comm, Nat.div_div_eq_div_mul]
theorem bin_nil {x : Nat} : bin x = [] ↔ x = 0 := by
  constructor
  · intro h; have := val_bin x; rw [h] at this; simpa [val] using this.symm
  · rintro rfl; exact bin_zero
theorem bin_lt (x i : Nat) : i < (bin x).length ↔ x / 2 ^ i ≠ 0 := by
  have e := bin_drop x i
  constructor
  · intro h hz
    rw [hz, bin_zero, List.drop_eq_nil_iff] at e; omega
  · intro h
    rcases Nat.lt_or_ge i (bin x).length with c | c
    · exact c
    · exfalso
      have : (bin x).drop i = [] := List.drop_eq_nil_iff.2 c
      rw [this] at e
      exact h (bin_nil.1 e.symm)
theorem bin_get (x i : Nat) (h : i < (bin x).length) : (bin x)[i] = x / 2 ^ i % 2 := by
  have e := bin_drop x i
  rw [bin_pos ((bin_lt x i).1 h), List.drop_eq_getElem_cons h] at e
  exact (List.cons.inj e).1
theorem sh_succ (x i : Nat) : x / 2 ^ (i + 1) = x / 2 ^ i / 2 := by rw [Nat.pow_succ, Nat.div_div_eq_div_mul]
/-- one step of a sum -/
theorem plus_step (c x y : Nat) (h : c + x + y ≠ 0) : bin (c + x + y) = ((c + x % 2 + y % 2) % 2) :: bin ((c + x % 2 + y % 2) / 2 + x / 2 + y / 2) := by
  rw [bin_pos h]
  congr 1
  · omega
  · congr 1; omega
theorem Dg.snoc {l : List Nat} {d : Nat} (h : Dg l) (hd : d ≤ 1) : Dg (l ++ [d]) := by
  intro x hx
  rw [List.mem_append, List.mem_singleton] at hx
  rcases hx with hx | rfl
  · exact h x hx
  · exact hd
theorem val_snoc (l : List Nat) (d : Nat) : val (l ++ [d]) = val l + 2 ^ l.length * d := by rw [val_app]; simp [val]
end Go.Proofs.YtdmddfhjfkdlnaaDoor
