/- Plain facts on the texts of days. No program in sight. Under no condition. -/
import Derived.Test.YtngbkdnkpolbfaaDoorPlainC
import Derived.Lib.AppendIntMem
import Derived.Lib.AtoiAll
import Derived.Lib.SplitLaws
import Derived.Lib.IndexBytes
namespace Go.Proofs.YtngbkdnkpolbfaaDoor

/-- a digit -/
def dg (k : Nat) : UInt8 := UInt8.ofNat (48 + k)
theorem dg_ne (k : Nat) (h : k < 10) : dg k ≠ 45 := by
  have : ∀ k : Nat, k < 10 → dg k ≠ 45 := by decide
  exact this k h
theorem itoa_dg (y : Nat) (h1 : 1800 ≤ y) (h2 : y ≤ 2073) : Lib.itoa (y : Int) = [dg (y / 1000), dg (y / 100 % 10), dg (y / 10 % 10), dg (y % 10)] := by
  have : ∀ k : Nat, k < 274 → Lib.itoa ((1800 + k : Nat) : Int) = [dg ((1800 + k) / 1000), dg ((1800 + k) / 100 % 10), dg ((1800 + k) / 10 % 10), dg ((1800 + k) % 10)] := by decide +kernel
  have e := this (y - 1800) (by omega)
  rwa [show 1800 + (y - 1800) = y by omega] at e
theorem dec_dg : ∀ n : Nat, n < 10 → Lib.decDigits n = [dg n] := by decide +kernel
theorem atoi4 (y : Nat) (h1 : 1800 ≤ y) (h2 : y ≤ 2073) : Lib.atoiAll (Lib.itoa (y : Int)) = .ok (y : Int) := by
  have : ∀ k : Nat, k < 274 → Lib.atoiAll (Lib.itoa ((1800 + k : Nat) : Int)) = .ok ((1800 + k : Nat) : Int) := by decide +kernel
  have e := this (y - 1800) (by omega)
  rwa [show 1800 + (y - 1800) = y by omega] at e
theorem atoi2 : ∀ n : Nat, n < 100 → Lib.atoiAll [dg (n / 10), dg (n % 10)] = .ok (n : Int) := by decide +kernel

theorem num_m1 (y m : Int) (k : Nat) (h1 : 1 ≤ m) (h2 : m + k ≤ 12) : num y m 1 ≤ num y (m + k) 1 := by
  induction k with
  | zero => simp
  | succ k ih =>
    have i := ih (by omega)
    have e := num_month y (m + k) (by omega) (by omega)
    have lb := len_bd y (m + k) (by omega) (by omega)
    have g : num y (m + k) 1 ≤ num y (m + k) (len y (m + k)) := by unfold num; omega
    rw [show m + (k + 1 : Nat) = m + k + 1 by omega, e]
    omega
theorem num_lt_d (y m d d' : Int) (h : d < d') : num y m d < num y m d' := by unfold num; omega
theorem num_lt_m (y m d m' d' : Int) (h1 : 1 ≤ m) (h2 : d ≤ len y m) (h3 : m < m') (h4 : m' ≤ 12) (h5 : 1 ≤ d') : num y m d < num y m' d' := by
  have e := num_month y m h1 (by omega)
  have a : num y m d ≤ num y m (len y m) := by unfold num; omega
  have b := num_m1 y (m + 1) (m' - (m + 1)).toNat (by omega) (by omega)
  rw [show m + 1 + ((m' - (m + 1)).toNat : Int) = m' by omega] at b
  have c : num y m' 1 ≤ num y m' d' := by unfold num; omega
  omega
theorem num_lt_y (y m d y' m' d' : Int) (h1 : 1 ≤ m) (h1' : m ≤ 12) (h2 : d ≤ len y m) (h3 : y < y') (h4 : 1 ≤ m') (h4' : m' ≤ 12) (h5 : 1 ≤ d') : num y m d < num y' m' d' := by
  have l12 := len_bd y 12 (by omega) (by omega)
  have a : num y m d ≤ num y 12 (len y 12) := by
    by_cases hm : m = 12
    · subst hm; unfold num; omega
    · have := num_lt_m y m d 12 (len y 12) h1 h2 (by omega) (by omega) (by omega); omega
  have e := num_year y
  have b : num (y + 1) 1 1 ≤ num y' 1 1 := by
    rw [num_eq, num_eq]
    have e1 : yr (y + 1) 1 = y := by unfold yr; rw [if_pos (by omega)]; omega
    have e2 : yr y' 1 = y' - 1 := by unfold yr; rw [if_pos (by omega)]
    have := dy_mono y (y' - 1) (by omega)
    rw [e1, e2]; omega
  have g := num_ge y' m' d' h4 h4' h5
  omega
/-- days are ordered as their dates -/
theorem lt_lex (a b : Int) (h : a < b) : spY a < spY b ∨ (spY a = spY b ∧ (spM a < spM b ∨ (spM a = spM b ∧ spD a < spD b))) := by
  obtain ⟨a1, a2, a3, a4, a5⟩ := split_ok a
  obtain ⟨b1, b2, b3, b4, b5⟩ := split_ok b
  rcases Int.lt_trichotomy (spY a) (spY b) with c | c | c
  · exact Or.inl c
  · right
    refine ⟨c, ?_⟩
    rw [← c] at b4 b5
    rcases Int.lt_trichotomy (spM a) (spM b) with e | e | e
    · exact Or.inl e
    · right
      refine ⟨e, ?_⟩
      rw [← e] at b5
      rcases Int.lt_or_le (spD a) (spD b) with g | g
      · exact g
      · exfalso
        have : num (spY a) (spM a) (spD b) ≤ num (spY a) (spM a) (spD a) := by unfold num; omega
        omega
    · exfalso
      have := num_lt_m (spY a) (spM b) (spD b) (spM a) (spD a) b1 b4 e a2 a3
      omega
  · exfalso
    have := num_lt_y _ _ _ _ _ _ b1 b2 b4 c a1 a2 a3
    omega

theorem dg_lt (p q : Nat) (hp : p < 10) (hq : q < 10) : (decide (dg p < dg q) = decide (p < q)) ∧ ((dg p == dg q) = decide (p = q)) := by
  have : ∀ p, p < 10 → ∀ q, q < 10 → (decide (dg p < dg q) = decide (p < q)) ∧ ((dg p == dg q) = decide (p = q)) := by decide
  exact this p hp q hq
theorem bl_dg (p q : Nat) (l l' : List UInt8) (hp : p < 10) (hq : q < 10) : Op.bytesLess (dg p :: l) (dg q :: l') = (decide (p < q) || (decide (p = q) && Op.bytesLess l l')) := by
  obtain ⟨e1, e2⟩ := dg_lt p q hp hq
  show (decide (dg p < dg q) || (dg p == dg q && Op.bytesLess l l')) = _
  rw [e1, e2]
theorem bl_same (c : UInt8) (l l' : List UInt8) : Op.bytesLess (c :: l) (c :: l') = Op.bytesLess l l' := by
  show (decide (c < c) || (c == c && Op.bytesLess l l')) = _
  simp
/-- ten bytes -/
def ten (y m d : Nat) : List UInt8 := [dg (y / 1000), dg (y / 100 % 10), dg (y / 10 % 10), dg (y % 10), 45, dg (m / 10), dg (m % 10), 45, dg (d / 10), dg (d % 10)]
theorem ten_less (y m d y' m' d' : Nat) (hy : y < 10000) (hy' : y' < 10000) (hm : m < 100) (hm' : m' < 100) (hd : d < 100) (hd' : d' < 100) :
    Op.bytesLess (ten y m d) (ten y' m' d') = true ↔ y < y' ∨ (y = y' ∧ (m < m' ∨ (m = m' ∧ d < d'))) := by
  unfold ten
  rw [bl_dg _ _ _ _ (by omega) (by omega), bl_dg _ _ _ _ (by omega) (by omega), bl_dg _ _ _ _ (by omega) (by omega), bl_dg _ _ _ _ (by omega) (by omega), bl_same, bl_dg _ _ _ _ (by omega) (by omega), bl_dg _ _ _ _ (by omega) (by omega), bl_same, bl_dg _ _ _ _ (by omega) (by omega), bl_dg _ _ _ _ (by omega) (by omega)]
  have hz : Op.bytesLess ([] : List UInt8) [] = false := rfl
  rw [hz]
  simp only [Bool.or_eq_true, Bool.and_eq_true, decide_eq_true_eq, Bool.and_false, Bool.or_false]
  omega
theorem mem45 (A : List UInt8) (rest : List UInt8) (h : ∀ c ∈ A, c ≠ 45) : Lib.index (A ++ 45 :: rest) [45] = A.length := by
  rw [Lib.index_one]
  induction A with
  | nil => rfl
  | cons c t ih =>
    have hc := h c (List.mem_cons_self ..)
    have i := ih (fun x hx => h x (List.mem_cons_of_mem _ hx))
    rw [List.cons_append]
    unfold Lib.indexByte
    rw [i]
    have hne : (c == 45) = false := by simpa using hc
    simp [hne]
theorem no45 (A : List UInt8) (h : ∀ c ∈ A, c ≠ 45) : Lib.index A [45] = -1 := by
  rw [Lib.index_one]
  induction A with
  | nil => rfl
  | cons c t ih =>
    have hc := h c (List.mem_cons_self ..)
    have i := ih (fun x hx => h x (List.mem_cons_of_mem _ hx))
    unfold Lib.indexByte
    rw [i]
    have hne : (c == 45) = false := by simpa using hc
    simp [hne]
theorem cut45 (A B C : List UInt8) (hA : ∀ c ∈ A, c ≠ 45) (hB : ∀ c ∈ B, c ≠ 45) (hC : ∀ c ∈ C, c ≠ 45) :
    Lib.count (A ++ 45 :: (B ++ 45 :: C)) [45] = 2 ∧ Lib.splitK [45] 0 2 (A ++ 45 :: (B ++ 45 :: C)) = [A, B, C] := by
  have i1 := mem45 A (B ++ 45 :: C) hA
  have i2 := mem45 B C hB
  have i3 := no45 C hC
  have d1 : (A ++ 45 :: (B ++ 45 :: C)).drop (A.length + 1) = B ++ 45 :: C := by
    rw [List.drop_append, List.drop_of_length_le (by omega)]; simp
  have d2 : (B ++ 45 :: C).drop (B.length + 1) = C := by
    rw [List.drop_append, List.drop_of_length_le (by omega)]; simp
  constructor
  · rw [Lib.count_hit (by decide) i1, show [(45 : UInt8)].length = 1 from rfl, d1, Lib.count_hit (by decide) i2, show [(45 : UInt8)].length = 1 from rfl, d2, Lib.count_miss i3]
  · have h1 : ¬ (Lib.index (A ++ 45 :: (B ++ 45 :: C)) [45] == -1) = true := by rw [i1]; simp
    have h2 : ¬ (Lib.index (B ++ 45 :: C) [45] == -1) = true := by rw [i2]; simp
    unfold Lib.splitK
    rw [if_neg h1, i1]
    simp only [Int.toNat_natCast, Nat.add_zero, show [(45 : UInt8)].length = 1 from rfl]
    rw [d1]
    unfold Lib.splitK
    rw [if_neg h2, i2]
    simp only [Int.toNat_natCast, Nat.add_zero, show [(45 : UInt8)].length = 1 from rfl]
    rw [d2]
    simp [Lib.splitK]
theorem ten_parts (y m d : Nat) (hy : y < 10000) (hm : m < 100) (hd : d < 100) : Lib.count (ten y m d) [45] = 2 ∧ Lib.splitK [45] 0 2 (ten y m d) = [[dg (y / 1000), dg (y / 100 % 10), dg (y / 10 % 10), dg (y % 10)], [dg (m / 10), dg (m % 10)], [dg (d / 10), dg (d % 10)]] := by
  refine cut45 [dg (y / 1000), dg (y / 100 % 10), dg (y / 10 % 10), dg (y % 10)] [dg (m / 10), dg (m % 10)] [dg (d / 10), dg (d % 10)] ?_ ?_ ?_
  · intro c hc
    simp only [List.mem_cons, List.not_mem_nil, or_false] at hc
    rcases hc with rfl | rfl | rfl | rfl <;> exact dg_ne _ (by omega)
  · intro c hc
    simp only [List.mem_cons, List.not_mem_nil, or_false] at hc
    rcases hc with rfl | rfl <;> exact dg_ne _ (by omega)
  · intro c hc
    simp only [List.mem_cons, List.not_mem_nil, or_false] at hc
    rcases hc with rfl | rfl <;> exact dg_ne _ (by omega)
end Go.Proofs.YtngbkdnkpolbfaaDoor
