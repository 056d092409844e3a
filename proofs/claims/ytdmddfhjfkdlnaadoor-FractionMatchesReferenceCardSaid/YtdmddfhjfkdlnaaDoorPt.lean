/- Plain facts on the texts of fractions. No program in sight. Under no condition. -/
import Derived.Test.YtdmddfhjfkdlnaaDoorPl
import Derived.Lib.ItoaNum
import Derived.Lib.AtoiAll
import Derived.Lib.IndexBytes
import Derived.Lib.IndexMore
namespace Go.Proofs.YtdmddfhjfkdlnaaDoor

/-- the bytes of a numeral -/
theorem dec_bytes (u : Nat) : ∀ c ∈ Lib.decDigits u, 48 ≤ c.toNat ∧ c.toNat ≤ 57 := by
  induction u using Nat.strongRecOn with
  | _ u ih =>
    intro c hc
    rw [Lib.decDigits] at hc
    have key : ∀ k : Nat, k < 10 → 48 ≤ (UInt8.ofNat (48 + k)).toNat ∧ (UInt8.ofNat (48 + k)).toNat ≤ 57 := by decide
    split at hc
    · rename_i h
      simp only [List.mem_singleton] at hc
      subst hc; exact key u h
    · rename_i h
      rw [List.mem_append, List.mem_singleton] at hc
      rcases hc with hc | rfl
      · exact ih (u / 10) (by omega) c hc
      · exact key (u % 10) (by omega)
theorem dec_ne (u : Nat) : Lib.decDigits u ≠ [] := by
  rw [Lib.decDigits]; split
  · simp
  · simp
theorem parse_snoc (l : List UInt8) (c : UInt8) (u : Nat) : ∀ acc : Nat, Lib.parseUint10 acc l = .ok u → (48 ≤ c.toNat ∧ c.toNat ≤ 57) → u < 1844674407370955162 → u * 10 + (c.toNat - 48) < 18446744073709551616 →
    Lib.parseUint10 acc (l ++ [c]) = .ok (u * 10 + (c.toNat - 48)) := by
  induction l with
  | nil =>
    intro acc h hc h1 h2
    simp only [Lib.parseUint10] at h
    injection h with h
    subst h
    rw [List.nil_append, Lib.parseUint10, if_pos hc, if_neg (by omega), if_neg (by omega), Lib.parseUint10]
  | cons x l ih =>
    intro acc h hc h1 h2
    rw [List.cons_append]
    rw [Lib.parseUint10] at h ⊢
    split at h
    · rename_i a
      rw [if_pos a]
      split at h
      · cases h
      · rename_i b
        rw [if_neg b]
        split at h
        · cases h
        · rename_i e
          rw [if_neg e]
          exact ih _ h hc h1 h2
    · cases h
theorem parse_dec (u : Nat) : u < 18446744073709551616 → Lib.parseUint10 0 (Lib.decDigits u) = .ok u := by
  induction u using Nat.strongRecOn with
  | _ u ih =>
    intro hu
    have key : ∀ k : Nat, k < 10 → (UInt8.ofNat (48 + k)).toNat = 48 + k := by decide
    rw [Lib.decDigits]
    split
    · rename_i h
      have k := key u h
      rw [Lib.parseUint10, k, if_pos (by omega), if_neg (by omega), if_neg (by omega), Lib.parseUint10]
      congr 1; omega
    · rename_i h
      have i := ih (u / 10) (by omega) (by omega)
      have k := key (u % 10) (by omega)
      rw [parse_snoc _ _ (u / 10) 0 i (by rw [k]; omega) (by omega) (by rw [k]; omega), k]
      congr 1; omega
/-- a numeral is read as its number -/
theorem atoi_itoa (n : Int) (h0 : -9223372036854775808 ≤ n) (h1 : n ≤ 9223372036854775807) : Lib.atoiAll (Lib.itoa n) = .ok n := by
  unfold Lib.itoa
  split
  · rename_i hn
    have e : Lib.parseMag (Lib.decDigits n.natAbs) = .ok n.natAbs := by
      unfold Lib.parseMag; rw [if_neg (dec_ne _), parse_dec _ (by omega)]
    unfold Lib.atoiAll
    have c45 : (45 : UInt8).toNat = 45 := rfl
    simp only [c45, or_true, if_true, e, not_true, false_and, if_false, true_and]
    rw [if_neg (by omega)]
    congr 1; omega
  · rename_i hn
    have e : Lib.parseMag (Lib.decDigits n.toNat) = .ok n.toNat := by
      unfold Lib.parseMag; rw [if_neg (dec_ne _), parse_dec _ (by omega)]
    have hb := dec_bytes n.toNat
    generalize Lib.decDigits n.toNat = l at *
    match l with
    | [] => exact absurd e (by unfold Lib.parseMag; rw [if_pos rfl]; intro h; cases h)
    | c :: r =>
      have hc := hb c (List.mem_cons_self ..)
      unfold Lib.atoiAll
      dsimp only
      rw [if_neg (by omega), e]
      dsimp only
      rw [if_neg (by omega), if_neg (by omega), if_neg (by omega)]
      congr 1; omega
theorem itoa_bytes (n : Int) : ∀ c ∈ Lib.itoa n, c ≠ 47 := by
  intro c hc h
  subst h
  unfold Lib.itoa at hc
  split at hc
  · rw [List.mem_cons] at hc
    rcases hc with hc | hc
    · exact absurd hc (by decide)
    · have := dec_bytes _ _ hc; revert this; decide
  · have := dec_bytes _ _ hc; revert this; decide
theorem ib_none (l : List UInt8) (h : ∀ c ∈ l, c ≠ 47) : Lib.indexByte l 47 = -1 := by
  induction l with
  | nil => rfl
  | cons x l ih =>
    have hx : x ≠ 47 := h x (List.mem_cons_self ..)
    have := ih (fun c hc => h c (List.mem_cons_of_mem _ hc))
    simp [Lib.indexByte, hx, this]
theorem ib_some (l r : List UInt8) (h : ∀ c ∈ l, c ≠ 47) : Lib.indexByte (l ++ 47 :: r) 47 = l.length := by
  induction l with
  | nil => simp [Lib.indexByte]
  | cons x l ih =>
    have hx : x ≠ 47 := h x (List.mem_cons_self ..)
    have := ih (fun c hc => h c (List.mem_cons_of_mem _ hc))
    simp [Lib.indexByte, hx, this]
/-- the text of a fraction -/
def txt (a b : Int) : List UInt8 := Lib.itoa a ++ (if 1 < b then 47 :: Lib.itoa b else [])
/-- the parts of a text around the first slash -/
theorem cut_txt (a b : Int) : Lib.cut (txt a b) [47] = if 1 < b then (Lib.itoa a, Lib.itoa b, true) else (Lib.itoa a, [], false) := by
  unfold Lib.cut txt
  rw [Lib.index_one]
  split
  · rw [ib_some _ _ (itoa_bytes a), if_pos (by omega)]
    simp
  · rw [List.append_nil, ib_none _ (itoa_bytes a), if_neg (by decide)]
/-- the denominator's text -/
def dtx (s : List UInt8) : List UInt8 := if (Lib.cut s [47]).2.2 = true then (Lib.cut s [47]).2.1 else [49]
/-- a fraction's text is read as its terms -/
theorem txt_read (a b : Int) (h : vld a b = true) : Lib.atoiAll (Lib.cut (txt a b) [47]).1 = .ok a ∧ Lib.atoiAll (dtx (txt a b)) = .ok b := by
  obtain ⟨h1, h2, h3, _⟩ := vld_iff.1 h
  unfold dtx
  rw [cut_txt]
  split
  · exact ⟨atoi_itoa a (by omega) (by omega), by rw [if_pos rfl]; exact atoi_itoa b (by omega) (by omega)⟩
  · rename_i hb
    refine ⟨atoi_itoa a (by omega) (by omega), ?_⟩
    have : b = 1 := by omega
    subst this
    rw [if_neg (by simp)]
    decide +kernel
theorem txt_inj (a b c d : Int) (h : vld a b = true) (h' : vld c d = true) (e : txt a b = txt c d) : a = c ∧ b = d := by
  obtain ⟨x1, x2⟩ := txt_read a b h
  obtain ⟨y1, y2⟩ := txt_read c d h'
  rw [e] at x1 x2
  rw [x1] at y1
  rw [x2] at y2
  injection y1 with y1
  injection y2 with y2
  exact ⟨y1, y2⟩
theorem atoi_bd (l : List UInt8) (n : Int) (h : Lib.atoiAll l = .ok n) : -9223372036854775808 ≤ n ∧ n ≤ 9223372036854775807 := by
  unfold Lib.atoiAll at h
  split at h
  · cases h
  · dsimp only at h
    split at h
    · cases h
    · cases h
    · split at h
      · cases h
      · split at h
        · cases h
        · rename_i a b
          have h' := Lib.NumEnd.ok.inj h
          rw [← h']
          split <;> omega
theorem dec_len (u : Nat) : ∀ k : Nat, u < 10 ^ (k + 1) → (Lib.decDigits u).length ≤ k + 1 := by
  induction u using Nat.strongRecOn with
  | _ u ih =>
    intro k hk
    rw [Lib.decDigits]; split
    · simp
    · rename_i h
      match k with
      | 0 => simp at hk; omega
      | k + 1 =>
        have := ih (u / 10) (by omega) k (by rw [Nat.pow_succ] at hk; omega)
        simp; omega
theorem itoa_len (n : Int) (h : n.natAbs ≤ 4611686018427387904) : (Lib.itoa n).length ≤ 20 := by
  unfold Lib.itoa; split
  · have := dec_len n.natAbs 18 (by omega)
    simp; omega
  · have := dec_len n.toNat 18 (by omega)
    omega
theorem txt_len (a b : Int) (h : vld a b = true) : (txt a b).length ≤ 41 := by
  obtain ⟨h1, h2, h3, _⟩ := vld_iff.1 h
  have l1 := itoa_len a h3
  have l2 := itoa_len b (by omega)
  unfold txt; rw [List.length_append]; split
  · simp; omega
  · simp; omega
end Go.Proofs.YtdmddfhjfkdlnaaDoor
