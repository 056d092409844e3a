/- Plain facts: words that are joined by blanks are found again. No program in sight. Under no condition. -/
import Derived.Test.YtngbkdnkpolbfaaDoorPlainT
import Derived.Lib.Join
namespace Go.Proofs.YtngbkdnkpolbfaaDoor

theorem join_two (x y : List UInt8) (r : List (List UInt8)) : Lib.join (x :: y :: r) [32] = x ++ 32 :: Lib.join (y :: r) [32] := by
  simp [Lib.join, List.intercalate, List.intersperse]
theorem at32 (A R : List UInt8) (h : ∀ c ∈ A, c ≠ 32) : Lib.index (A ++ 32 :: R) [32] = A.length := by
  rw [Lib.index_one]
  induction A with
  | nil => rfl
  | cons c t ih =>
    have hc := h c (List.mem_cons_self ..)
    have i := ih (fun x hx => h x (List.mem_cons_of_mem _ hx))
    rw [List.cons_append]
    unfold Lib.indexByte
    rw [i]
    have hne : (c == 32) = false := by simpa using hc
    simp [hne]
theorem no32 (A : List UInt8) (h : ∀ c ∈ A, c ≠ 32) : Lib.index A [32] = -1 := by
  rw [Lib.index_one]
  induction A with
  | nil => rfl
  | cons c t ih =>
    have hc := h c (List.mem_cons_self ..)
    have i := ih (fun x hx => h x (List.mem_cons_of_mem _ hx))
    unfold Lib.indexByte
    rw [i]
    have hne : (c == 32) = false := by simpa using hc
    simp [hne]
/-- words without blanks, joined by blanks, are found again -/
theorem words_join (xs : List (List UInt8)) : ∀ x, (∀ y ∈ x :: xs, ∀ c ∈ y, c ≠ 32) → Lib.count (Lib.join (x :: xs) [32]) [32] = xs.length ∧ Lib.splitK [32] 0 xs.length (Lib.join (x :: xs) [32]) = x :: xs := by
  induction xs with
  | nil =>
    intro x h
    rw [show Lib.join [x] [32] = x from Lib.join_one _ _]
    exact ⟨Lib.count_miss (no32 x (h x (by simp))), by simp [Lib.splitK]⟩
  | cons y r ih =>
    intro x h
    obtain ⟨i1, i2⟩ := ih y (fun z hz => h z (by simp at hz ⊢; rcases hz with e | e <;> simp [e]))
    rw [join_two]
    have ix := at32 x (Lib.join (y :: r) [32]) (h x (by simp))
    have d1 : (x ++ 32 :: Lib.join (y :: r) [32]).drop (x.length + 1) = Lib.join (y :: r) [32] := by
      rw [List.drop_append, List.drop_of_length_le (by omega)]; simp
    constructor
    · rw [Lib.count_hit (by decide) ix, show [(32 : UInt8)].length = 1 from rfl, d1, i1, List.length_cons]; omega
    · have h1 : ¬ (Lib.index (x ++ 32 :: Lib.join (y :: r) [32]) [32] == -1) = true := by rw [ix]; simp
      rw [List.length_cons]
      unfold Lib.splitK
      rw [if_neg h1, ix]
      simp only [Int.toNat_natCast, Nat.add_zero, show [(32 : UInt8)].length = 1 from rfl]
      rw [d1, i2]
      simp
end Go.Proofs.YtngbkdnkpolbfaaDoor
