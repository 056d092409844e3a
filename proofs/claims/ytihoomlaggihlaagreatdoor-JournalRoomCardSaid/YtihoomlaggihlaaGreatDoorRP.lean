/- Plain facts on the reference's numbers, heads, pieces and records. No program in sight. Under no condition. -/
import Derived.Test.YtihoomlaggihlaaGreatDoorKP
namespace Go.Proofs.YtihoomlaggihlaaGreatDoor

/-- the number that digits are, on top of one read before; -1 if they are none -/
def numP : List UInt8 → Int → Int
  | [], n => n
  | c :: l, n => if c.toNat < 48 ∨ 57 < c.toNat then -1 else numP l (10 * n + ((c.toNat : Int) - 48))
theorem numP_app : ∀ (a b : List UInt8) (n : Int), 0 ≤ n → numP (a ++ b) n = if numP a n < 0 then -1 else numP b (numP a n)
  | [], b, n, h => by simp [numP]; omega
  | c :: a, b, n, h => by
    simp only [List.cons_append, numP]
    split
    · simp
    · exact numP_app a b _ (by omega)
theorem numP_bd : ∀ (a : List UInt8) (n : Int), 0 ≤ n → -1 ≤ numP a n ∧ numP a n < (n + 1) * 10 ^ a.length
  | [], n, h => by simp [numP]; omega
  | c :: a, n, h => by
    simp only [numP, List.length_cons]
    have hp : (0 : Int) < 10 ^ (a.length + 1) := Int.pow_pos (by decide)
    have hm : 0 < (n + 1) * 10 ^ (a.length + 1) := Int.mul_pos (by omega) hp
    split
    · omega
    · have i := numP_bd a (10 * n + ((c.toNat : Int) - 48)) (by omega)
      refine ⟨i.1, Int.lt_of_lt_of_le i.2 ?_⟩
      rw [Int.pow_succ, Int.mul_comm (10 ^ a.length) 10, ← Int.mul_assoc]
      have hq : (0 : Int) ≤ 10 ^ a.length := Int.le_of_lt (Int.pow_pos (by decide))
      exact Int.mul_le_mul_of_nonneg_right (by omega) hq
theorem numP_dd (d : Nat) (h : d < 10) (n : Int) : numP [dd d] n = 10 * n + d := by
  have key : ∀ k, k < 10 → (dd k).toNat = 48 + k := by decide
  simp only [numP, key d h]
  rw [if_neg (by omega)]
  omega
theorem numP_decs : ∀ (w n : Nat), n < 10 ^ w → numP (decs w n []) 0 = n
  | 0, n, h => by
    have : n = 0 := by simpa using h
    subst this; rfl
  | w + 1, n, h => by
    have i := numP_decs w (n / 10) (by rw [Nat.pow_succ] at h; omega)
    rw [decs_snoc, numP_app _ _ _ (Int.le_refl _), i, if_neg (by omega), numP_dd _ (Nat.mod_lt _ (by decide))]
    omega
theorem numP_dec (n : Nat) : numP (Lib.decDigits n) 0 = n := by
  induction n using Nat.strongRecOn with
  | _ n ih =>
    by_cases h : n < 10
    · rw [dec_small h, numP_dd _ h]; omega
    · rw [dec_big h, numP_app _ _ _ (Int.le_refl _), ih (n / 10) (by omega), if_neg (by omega), numP_dd _ (Nat.mod_lt _ (by decide))]
      omega
/-- a head's count is read from its digits -/
theorem head_num (p m : Nat) (h : m < 10 ^ 8) : numP (((headP p m).drop 16).take 8) 0 = m := by
  rw [head_eq, sealT, List.drop_append_of_le_length (by rw [dig_len]; exact Nat.le_refl _), List.drop_of_length_le (by rw [dig_len]; exact Nat.le_refl _), List.nil_append, List.take_append_of_le_length (by rw [decs_len]; exact Nat.le_refl _), List.take_of_length_le (by rw [decs_len]; exact Nat.le_refl _)]
  exact numP_decs 8 m h
theorem cnt_num_no {p room : Nat} {s : List UInt8} (hr : room < 10 ^ 8) (hz : s ≠ zeroT) (h : numP ((s.drop 16).take 8) 0 < 0 ∨ (room : Int) < numP ((s.drop 16).take 8) 0 ∨ headP p (numP ((s.drop 16).take 8) 0).toNat ≠ s) : cnt p s room = -1 :=
  cnt_none hz fun n hn e => by
    rw [← e, head_num p n (by omega)] at h
    rcases h with h | h | h
    · omega
    · omega
    · exact h rfl
theorem cnt_num_yes {p room : Nat} {s : List UInt8} (hr : room < 10 ^ 8) (h0 : 0 ≤ numP ((s.drop 16).take 8) 0) (h1 : numP ((s.drop 16).take 8) 0 ≤ room) (h : headP p (numP ((s.drop 16).take 8) 0).toNat = s) : cnt p s room = numP ((s.drop 16).take 8) 0 := by
  have e := cnt_head (p := p) (n := (numP ((s.drop 16).take 8) 0).toNat) hr (by omega)
  rw [h] at e
  omega
/-- the piece that a sector holds, if any -/
def pieceP (p : Nat) (s : List UInt8) : List UInt8 :=
  if 1 ≤ numP ((s.drop 16).take 2) 0 ∧ numP ((s.drop 16).take 2) 0 ≤ 46 ∧ sectP p ((s.drop 18).take (numP ((s.drop 16).take 2) 0).toNat) = s then (s.drop 18).take (numP ((s.drop 16).take 2) 0).toNat else []
theorem sect_parts (p : Nat) {t : List UInt8} (h : t.length ≤ 46) : numP (((sectP p t).drop 16).take 2) 0 = t.length ∧ ((sectP p t).drop 18).take t.length = t := by
  have e : sectP p t = dig (decs 8 p [] ++ fillT (decs 2 t.length [] ++ t)) ++ (decs 2 t.length [] ++ (t ++ List.replicate (48 - (decs 2 t.length [] ++ t).length) 0)) := by
    rw [sectP, sealP, sealT]
    simp [fillT]
  have d2 : (decs 2 t.length []).length = 2 := by rw [decs_len]; rfl
  rw [e]
  refine ⟨?_, ?_⟩
  · rw [List.drop_append_of_le_length (by rw [dig_len]; exact Nat.le_refl _), List.drop_of_length_le (by rw [dig_len]; exact Nat.le_refl _), List.nil_append, List.take_append_of_le_length (by omega), List.take_of_length_le (by omega)]
    exact numP_decs 2 _ (by omega)
  · rw [← List.append_assoc, List.drop_append_of_le_length (by rw [List.length_append, dig_len, d2]; exact Nat.le_refl _), List.drop_of_length_le (by rw [List.length_append, dig_len, d2]; exact Nat.le_refl _), List.nil_append, List.take_append_of_le_length (Nat.le_refl _), List.take_of_length_le (Nat.le_refl _)]
theorem piece_of (p : Nat) {t : List UInt8} (h1 : 1 ≤ t.length) (h : t.length ≤ 46) : pieceP p (sectP p t) = t := by
  obtain ⟨a, b⟩ := sect_parts p h
  unfold pieceP
  rw [a, Int.toNat_natCast, b, if_pos ⟨by omega, by omega, rfl⟩]
theorem piece_is {p : Nat} {s : List UInt8} (hs : s.length = 64) (h : pieceP p s ≠ []) : 1 ≤ (pieceP p s).length ∧ (pieceP p s).length ≤ 46 ∧ s = sectP p (pieceP p s) := by
  unfold pieceP at *
  split at h
  · rename_i g
    obtain ⟨g1, g2, g3⟩ := g
    rw [if_pos ⟨g1, g2, g3⟩]
    refine ⟨?_, ?_, g3.symm⟩
    · rw [List.length_take, List.length_drop]; omega
    · rw [List.length_take, List.length_drop]; omega
  · exact absurd rfl h
theorem dec5 (n : Nat) (h : n ≤ 20000) : (Lib.decDigits n).length ≤ 5 := (pad_dec 4 n (by omega)).1
/-- no colon among the first six bytes: no record begins here -/
theorem not_head_six {r : List UInt8} (h : ∀ i, i ≤ 5 → r[i]? ≠ some 58) : ¬ HeadOk r := by
  rintro ⟨x, r', hx, e⟩
  refine h _ (dec5 x.length hx) ?_
  rw [e, List.getElem?_append_right (Nat.le_refl _), Nat.sub_self]
  rfl
theorem no_colon {r : List UInt8} {k : Nat} (h : ∀ i, i < k → r[i]? ≠ some 58) : (58 : UInt8) ∉ r.take k := by
  intro e
  obtain ⟨i, hi, e⟩ := List.getElem_of_mem e
  rw [List.getElem_take] at e
  rw [List.length_take] at hi
  exact h i (by omega) (by rw [List.getElem?_eq_getElem (by omega), e])
theorem at_colon {r : List UInt8} {k : Nat} (h : r[k]? = some 58) : r = r.take k ++ 58 :: r.drop (k + 1) := by
  have hk : k < r.length := by
    by_cases e : k < r.length
    · exact e
    · rw [List.getElem?_eq_none (by omega)] at h; cases h
  rw [List.getElem?_eq_getElem hk] at h
  have e : r[k] = 58 := by simpa using h
  rw [← e, List.getElem_cons_drop]
  exact (List.take_append_drop k r).symm
end Go.Proofs.YtihoomlaggihlaaGreatDoor
