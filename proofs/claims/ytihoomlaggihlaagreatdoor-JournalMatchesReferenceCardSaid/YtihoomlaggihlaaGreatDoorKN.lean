/- Plain facts: numbers with leading zeros are read back. No program in sight. Under no condition. -/
import Derived.Test.YtihoomlaggihlaaGreatDoorJP
import Derived.Lib.AtoiAll
namespace Go.Proofs.YtihoomlaggihlaaGreatDoor

theorem parse_snoc (d : UInt8) : ∀ (l : List UInt8) (u acc : Nat), Lib.parseUint10 acc l = .ok u → (48 ≤ d.toNat ∧ d.toNat ≤ 57) → u < 1844674407370955162 → u * 10 + (d.toNat - 48) < 18446744073709551616 → Lib.parseUint10 acc (l ++ [d]) = .ok (u * 10 + (d.toNat - 48))
  | [], u, acc, h, hd, h1, h2 => by
    simp only [Lib.parseUint10] at h
    injection h with h
    subst h
    rw [List.nil_append, Lib.parseUint10, if_pos hd, if_neg (by omega), if_neg (by omega), Lib.parseUint10]
  | c :: r, u, acc, h, hd, h1, h2 => by
    rw [List.cons_append, Lib.parseUint10]
    rw [Lib.parseUint10] at h
    split at h
    · rename_i hc
      rw [if_pos hc]
      split at h
      · cases h
      · rename_i ha
        rw [if_neg ha]
        split at h
        · cases h
        · rename_i hb
          rw [if_neg hb]
          exact parse_snoc d r u _ h hd h1 h2
    · cases h
theorem dd_val (k : Nat) (h : k < 10) : (dd k).toNat = 48 + k := by
  have key : ∀ k, k < 10 → (dd k).toNat = 48 + k := by decide
  exact key k h
theorem parse_decs : ∀ (n x : Nat), n ≤ 17 → x < 10 ^ n → Lib.parseUint10 0 (decs n x []) = .ok x
  | 0, x, _, h => by
    have : x = 0 := by simpa using h
    subst this
    rfl
  | n + 1, x, hn, h => by
    rw [decs_snoc]
    have i := parse_decs n (x / 10) (by omega) (by rw [Nat.pow_succ] at h; omega)
    have h17 : 10 ^ (n + 1) ≤ 10 ^ 18 := Nat.pow_le_pow_right (by decide) (by omega)
    have hx : x < 1000000000000000000 := Nat.lt_of_lt_of_le h h17
    have k := dd_val (x % 10) (Nat.mod_lt _ (by decide))
    rw [parse_snoc _ _ (x / 10) 0 i (by omega) (by omega) (by omega), k]
    congr 1; omega
theorem atoi_decs {n x : Nat} (h1 : 1 ≤ n) (hn : n ≤ 17) (h : x < 10 ^ n) : Lib.atoiAll (decs n x []) = .ok (x : Int) := by
  have e : Lib.parseMag (decs n x []) = .ok x := by
    unfold Lib.parseMag
    rw [if_neg (fun e => by have := decs_len n x []; rw [e] at this; simp at this; omega), parse_decs n x hn h]
  have hx : x < 10 ^ 17 := Nat.lt_of_lt_of_le h (Nat.pow_le_pow_right (by decide) hn)
  have hb := decs_digit n x
  generalize decs n x [] = l at *
  match l with
  | [] => exact absurd e (by unfold Lib.parseMag; rw [if_pos rfl]; intro h; cases h)
  | c :: r =>
    have hc := hb c (List.mem_cons_self ..)
    unfold Lib.atoiAll
    dsimp only
    rw [if_neg (by omega), e]
    dsimp only
    rw [if_neg (by omega), if_neg (by omega), if_neg (by omega)]
theorem atoi_bd (l : List UInt8) (n : Int) (h : Lib.atoiAll l = .ok n) : -9223372036854775808 ≤ n ∧ n ≤ 9223372036854775807 := by
  unfold Lib.atoiAll at h
  split at h
  · cases h
  · dsimp only at h
    split at h
    · cases h
    · cases h
    · split at h
      · cases h
      · split at h
        · cases h
        · rename_i a b
          have h' := Lib.NumEnd.ok.inj h
          rw [← h']
          split <;> omega
/-- the count's digits of a head -/
theorem head_digits (p n : Nat) : ((headP p n).drop 16).take 8 = decs 8 n [] := by
  rw [head_eq, sealT, List.drop_left' (dig_len _), List.take_append_of_le_length (by rw [decs_len]; simp), List.take_of_length_le (by rw [decs_len]; simp)]
theorem sect_digits (p : Nat) {t : List UInt8} : ((sectP p t).drop 16).take 2 = decs 2 t.length [] := by
  rw [sectP, sealP, sealT, List.drop_left' (dig_len _), fillT, List.append_assoc, List.take_append_of_le_length (by rw [decs_len]; simp), List.take_of_length_le (by rw [decs_len]; simp)]
theorem sect_text (p : Nat) {t : List UInt8} : ((sectP p t).drop 18).take t.length = t := by
  rw [sectP, sealP, sealT, show (18 : Nat) = 16 + 2 from rfl, ← List.drop_drop, List.drop_left' (dig_len _), fillT, List.append_assoc, List.drop_left' (by rw [decs_len]; rfl), List.take_left' rfl]
theorem dec_atoi (n : Nat) (h : n ≤ 100000000000) : Lib.atoiAll (Lib.decDigits n) = .ok (n : Int) := by
  have key : ∀ (n : Nat), n ≤ 100000000000 → Lib.parseUint10 0 (Lib.decDigits n) = .ok n := by
    intro n
    induction n using Nat.strongRecOn with
    | _ n ih =>
      intro hn
      by_cases hs : n < 10
      · have k := dd_val n hs
        rw [dec_small hs, Lib.parseUint10, if_pos (by omega), if_neg (by omega), if_neg (by omega), Lib.parseUint10]
        congr 1; omega
      · have k := dd_val (n % 10) (Nat.mod_lt _ (by decide))
        rw [dec_big hs, parse_snoc _ _ (n / 10) 0 (ih _ (by omega) (by omega)) (by omega) (by omega) (by omega), k]
        congr 1; omega
  have e : Lib.parseMag (Lib.decDigits n) = .ok n := by
    unfold Lib.parseMag
    rw [if_neg (dec_ne n), key n h]
  have hb := dec_digit n
  generalize Lib.decDigits n = l at *
  match l with
  | [] => exact absurd e (by unfold Lib.parseMag; rw [if_pos rfl]; intro h; cases h)
  | c :: r =>
    have hc := hb c (List.mem_cons_self ..)
    unfold Lib.atoiAll
    dsimp only
    rw [if_neg (by omega), e]
    dsimp only
    rw [if_neg (by omega), if_neg (by omega), if_neg (by omega)]
end Go.Proofs.YtihoomlaggihlaaGreatDoor
