/- Plain facts on products of binary digits. No program in sight. Under no condition. -/
import Derived.Test.YtdmddfhjfkdlnaaDoorPy
namespace Go.Proofs.YtdmddfhjfkdlnaaDoor

theorem val_set (l : List Nat) (j d : Nat) (h : j < l.length) : val (l.set j d) + 2 ^ j * l[j] = val l + 2 ^ j * d := by
  induction l generalizing j with
  | nil => simp at h
  | cons x l ih =>
    cases j with
    | zero => simp [val]; omega
    | succ j =>
      have hj : j < l.length := by simpa using h
      have := ih j hj
      simp only [List.set_cons_succ, List.getElem_cons_succ, val, Nat.pow_succ]
      generalize val (l.set j d) = u at *
      generalize val l = v at *
      have e1 : 2 ^ j * 2 * l[j]'hj = 2 * (2 ^ j * l[j]'hj) := by rw [Nat.mul_comm (2 ^ j) 2, Nat.mul_assoc]
      have e2 : 2 ^ j * 2 * d = 2 * (2 ^ j * d) := by rw [Nat.mul_comm (2 ^ j) 2, Nat.mul_assoc]
      rw [e1, e2]; omega
theorem Dg.set {l : List Nat} {j d : Nat} (h : Dg l) (hd : d ≤ 1) : Dg (l.set j d) := by
  intro x hx
  rcases List.mem_or_eq_of_mem_set hx with hx | rfl
  · exact h x hx
  · exact hd
/-- one step of adding a shifted number -/
theorem times_step {o : List Nat} {j c q y k : Nat} {T : Nat} (hj : j < o.length) (h : val o + 2 ^ j * (c + y / 2 ^ k) = T) (hq : q = y / 2 ^ k % 2) :
    val (o.set j ((c + o[j] + q) % 2)) + 2 ^ (j + 1) * ((c + o[j] + q) / 2 + y / 2 ^ (k + 1)) = T := by
  have s := val_set o j ((c + o[j] + q) % 2) hj
  rw [sh_succ, ← h, Nat.pow_succ]
  generalize y / 2 ^ k = u at *
  generalize val (o.set j ((c + o[j] + q) % 2)) = v at *
  generalize o[j] = d at *
  have e1 : 2 ^ j * 2 * ((c + d + q) / 2 + u / 2) + 2 ^ j * ((c + d + q) % 2) = 2 ^ j * (c + u) + 2 ^ j * d := by
    rw [Nat.mul_assoc, ← Nat.mul_add, ← Nat.mul_add]
    congr 1; omega
  omega
/-- the end of adding a shifted number -/
theorem times_end {o : List Nat} {c u T : Nat} (h : val o + 2 ^ o.length * (c + u) = T) (hT : T < 2 ^ o.length) : val o = T := by
  rcases Nat.eq_zero_or_pos (c + u) with e | e
  · rw [e] at h; omega
  · have : 2 ^ o.length * 1 ≤ 2 ^ o.length * (c + u) := Nat.mul_le_mul_left _ e
    omega
theorem mod_pow_succ (x i : Nat) : x % 2 ^ (i + 1) = x % 2 ^ i + 2 ^ i * (x / 2 ^ i % 2) := by rw [Nat.pow_succ, Nat.mod_mul]
theorem times_one {x y i T : Nat} (h : T = x % 2 ^ i * y) (h1 : x / 2 ^ i % 2 = 1) : T + 2 ^ i * y = x % 2 ^ (i + 1) * y := by
  rw [mod_pow_succ, h1, h, Nat.mul_one, Nat.add_mul]
theorem times_none {x y i T : Nat} (h : T = x % 2 ^ i * y) (h1 : x / 2 ^ i % 2 = 0) : T = x % 2 ^ (i + 1) * y := by
  rw [mod_pow_succ, h1, h, Nat.mul_zero, Nat.add_zero]
theorem times_bound (x y i : Nat) : x % 2 ^ i * y < 2 ^ ((bin x).length + (bin y).length + 1) := by
  have h1 := val_lt (bin x) (bin_dg x)
  have h2 := val_lt (bin y) (bin_dg y)
  rw [val_bin] at h1 h2
  have h3 : x % 2 ^ i ≤ x := Nat.mod_le _ _
  have h4 : x % 2 ^ i * y ≤ 2 ^ (bin x).length * 2 ^ (bin y).length := Nat.mul_le_mul (by omega) (by omega)
  rw [← Nat.pow_add] at h4
  have : 2 ^ ((bin x).length + (bin y).length) < 2 ^ ((bin x).length + (bin y).length + 1) := Nat.pow_lt_pow_right (by decide) (by omega)
  omega
theorem val_zeros (n : Nat) : val (List.replicate n 0) = 0 := by
  induction n with
  | zero => rfl
  | succ n ih => rw [List.replicate_succ, val, ih]
theorem dg_zeros (n : Nat) : Dg (List.replicate n 0) := fun d hd => by rw [(List.mem_replicate.1 hd).2]; omega
theorem mod_all (x : Nat) : x % 2 ^ (bin x).length = x := by
  have h1 := val_lt (bin x) (bin_dg x)
  rw [val_bin] at h1
  exact Nat.mod_eq_of_lt h1
end Go.Proofs.YtdmddfhjfkdlnaaDoor
