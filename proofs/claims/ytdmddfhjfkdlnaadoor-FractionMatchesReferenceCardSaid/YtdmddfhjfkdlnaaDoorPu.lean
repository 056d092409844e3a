/- Plain facts on reading a fraction's text as the reference does. No program in sight. Under no condition. -/
import Derived.Test.YtdmddfhjfkdlnaaDoorPt
namespace Go.Proofs.YtdmddfhjfkdlnaaDoor

/-- the number that digits behind a number make -/
def nmGo : Nat → List UInt8 → Option Nat
  | n, [] => some n
  | n, c :: l => if 48 ≤ c.toNat ∧ c.toNat ≤ 57 ∧ n ≤ 461168601842738790 then nmGo (10 * n + (c.toNat - 48)) l else none
/-- what number returns -/
def nmV (l : List UInt8) : Nat := (nmGo 0 l).getD 0
def nmB (l : List UInt8) : Bool := (nmGo 0 l).isSome && !l.isEmpty
theorem nm_app (l : List UInt8) : ∀ (n : Nat) (r : List UInt8), nmGo n (l ++ r) = (nmGo n l).bind fun m => nmGo m r := by
  induction l with
  | nil => intro n r; rfl
  | cons c l ih =>
    intro n r
    rw [List.cons_append, nmGo, nmGo]
    split
    · exact ih _ r
    · rfl
theorem nm_le (l : List UInt8) : ∀ (n m : Nat), n ≤ 4611686018427387909 → nmGo n l = some m → m ≤ 4611686018427387909 := by
  induction l with
  | nil => intro n m h e; rw [nmGo] at e; injection e with e; omega
  | cons c l ih =>
    intro n m h e
    rw [nmGo] at e
    split at e
    · exact ih _ _ (by omega) e
    · cases e
theorem nmV_le (l : List UInt8) : nmV l ≤ 4611686018427387909 := by
  unfold nmV
  cases h : nmGo 0 l with
  | none => simp
  | some m => exact nm_le l 0 m (by omega) h
theorem nm_dec (u : Nat) : u ≤ 4611686018427387904 → nmGo 0 (Lib.decDigits u) = some u := by
  induction u using Nat.strongRecOn with
  | _ u ih =>
    intro hu
    have key : ∀ k : Nat, k < 10 → (UInt8.ofNat (48 + k)).toNat = 48 + k := by decide
    rw [Lib.decDigits]
    split
    · rename_i h
      rw [nmGo, key u h, if_pos (by omega), nmGo]
      congr 1; omega
    · rename_i h
      rw [nm_app, ih (u / 10) (by omega) (by omega), Option.bind_some, nmGo, key (u % 10) (by omega), if_pos (by omega), nmGo]
      congr 1; omega
theorem nm_decV (u : Nat) (h : u ≤ 4611686018427387904) : nmV (Lib.decDigits u) = u ∧ nmB (Lib.decDigits u) = true := by
  unfold nmV nmB
  rw [nm_dec u h]
  refine ⟨rfl, ?_⟩
  have := dec_ne u
  cases hd : Lib.decDigits u with
  | nil => exact absurd hd this
  | cons c l => rfl
/-- one byte more -/
theorem nm_take (l : List UInt8) (k : Nat) (h : k < l.length) (n : Nat) (hn : nmGo 0 (l.take k) = some n) :
    nmGo 0 (l.take (k + 1)) = if 48 ≤ (l[k]).toNat ∧ (l[k]).toNat ≤ 57 ∧ n ≤ 461168601842738790 then some (10 * n + ((l[k]).toNat - 48)) else none := by
  rw [List.take_succ_eq_append_getElem h, nm_app, hn, Option.bind_some, nmGo]
  split <;> rfl
theorem nm_fall (l : List UInt8) (k : Nat) (h : nmGo 0 (l.take k) = none) : nmGo 0 l = none := by
  have e : l = l.take k ++ l.drop k := (List.take_append_drop k l).symm
  rw [e, nm_app, h]; rfl
/-- how the reference reads a text whose first slash, if any, is at a place: the two numbers, and whether both are there -/
def rdN (l : List UInt8) (k : Nat) : List UInt8 := if (l.take k).head? = some 45 then (l.take k).tail else l.take k
def rdS (l : List UInt8) (k : Nat) : Int := if (l.take k).head? = some 45 then -(nmV (rdN l k) : Int) else nmV (rdN l k)
def rdD (l : List UInt8) (k : Nat) : Int := if k < l.length then (nmV (l.drop (k + 1)) : Int) else 1
def rdI (l : List UInt8) (k : Nat) : Bool := nmB (rdN l k) && (decide (¬ k < l.length) || nmB (l.drop (k + 1)))
theorem dec_head (u : Nat) : (Lib.decDigits u).head? ≠ some 45 := by
  intro h
  cases hd : Lib.decDigits u with
  | nil => exact dec_ne u hd
  | cons c l =>
    rw [hd] at h
    have := dec_bytes u c (by rw [hd]; simp)
    simp only [List.head?_cons, Option.some.injEq] at h
    rw [h] at this
    revert this; decide
theorem rd_num (a : Int) (h : a.natAbs ≤ 4611686018427387904) (l : List UInt8) (k : Nat) (hl : l.take k = Lib.itoa a) : rdS l k = a ∧ nmB (rdN l k) = true := by
  unfold rdS rdN
  rw [hl]
  unfold Lib.itoa
  by_cases hn : a < 0
  · rw [if_pos hn]
    obtain ⟨e1, e2⟩ := nm_decV a.natAbs h
    simp only [List.head?_cons, if_true, List.tail_cons]
    rw [e1, e2]
    exact ⟨by omega, rfl⟩
  · rw [if_neg hn]
    have hh := dec_head a.natAbs
    obtain ⟨e1, e2⟩ := nm_decV a.natAbs h
    rw [show a.toNat = a.natAbs by omega] at *
    rw [if_neg hh, if_neg hh, e1, e2]
    exact ⟨by omega, rfl⟩
theorem no_slash (l r : List UInt8) (h : ∀ c ∈ l, c ≠ 47) (k : Nat) (h1 : ∀ j (hj : j < (l ++ 47 :: r).length), j < k → (l ++ 47 :: r)[j] ≠ 47) (h2 : ∀ (hj : k < (l ++ 47 :: r).length), (l ++ 47 :: r)[k] = 47) : k = l.length := by
  rcases Nat.lt_trichotomy k l.length with c | c | c
  · exfalso
    have := h2 (by simp; omega)
    rw [List.getElem_append_left c] at this
    exact h _ (List.getElem_mem _) this
  · exact c
  · exfalso
    refine h1 l.length (by simp) c ?_
    rw [List.getElem_append_right (Nat.le_refl _)]
    simp
/-- the text of a fraction is read as the fraction -/
theorem rd_txt (a b : Int) (hv : vld a b = true) (l : List UInt8) (hl : txt a b = l) (k : Nat) (hk : k ≤ l.length) (h1 : ∀ j (hj : j < l.length), j < k → l[j] ≠ 47) (h2 : ∀ (hj : k < l.length), l[k] = 47) : rdS l k = a ∧ rdD l k = b ∧ rdI l k = true := by
  obtain ⟨v1, v2, v3, _⟩ := vld_iff.1 hv
  unfold txt at hl
  by_cases hb : 1 < b
  · rw [if_pos hb] at hl
    subst hl
    obtain rfl := no_slash _ _ (itoa_bytes a) k h1 h2
    obtain ⟨e1, e2⟩ := rd_num a v3 (Lib.itoa a ++ 47 :: Lib.itoa b) (Lib.itoa a).length (by simp)
    have hd : (Lib.itoa a ++ 47 :: Lib.itoa b).drop ((Lib.itoa a).length + 1) = Lib.decDigits b.natAbs := by
      rw [List.drop_append, List.drop_of_length_le (by omega)]
      simp
      unfold Lib.itoa
      rw [if_neg (by omega)]; congr 1; omega
    obtain ⟨f1, f2⟩ := nm_decV b.natAbs (by omega)
    refine ⟨e1, ?_, ?_⟩
    · unfold rdD; rw [if_pos (by simp), hd, f1]; omega
    · unfold rdI; rw [e2, hd, f2]; simp
  · rw [if_neg hb, List.append_nil] at hl
    subst hl
    have hke : k = (Lib.itoa a).length := by
      rcases Nat.lt_or_ge k (Lib.itoa a).length with c | c
      · exact absurd (h2 c) (itoa_bytes a _ (List.getElem_mem _))
      · omega
    subst hke
    obtain ⟨e1, e2⟩ := rd_num a v3 (Lib.itoa a) (Lib.itoa a).length (by simp)
    refine ⟨e1, ?_, ?_⟩
    · unfold rdD; rw [if_neg (by omega)]; omega
    · unfold rdI; rw [e2]; simp
end Go.Proofs.YtdmddfhjfkdlnaaDoor
