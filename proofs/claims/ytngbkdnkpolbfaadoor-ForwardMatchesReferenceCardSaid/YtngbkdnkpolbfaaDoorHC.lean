/- Plain facts on the words of a text. No program in sight. Under no condition. -/
import Derived.Test.YtngbkdnkpolbfaaDoorFQ
namespace Go.Proofs.YtngbkdnkpolbfaaDoor
open Go.RowKit Go.Maps

/-- the words between blanks -/
def wsp : List UInt8 → List (List UInt8)
  | [] => [[]]
  | c :: l => if c = 32 then [] :: wsp l else match wsp l with
    | [] => [[c]]
    | h :: t => (c :: h) :: t
theorem wsp_ne : ∀ l : List UInt8, wsp l ≠ []
  | [] => by simp [wsp]
  | c :: l => by
    unfold wsp
    split
    · simp
    · split <;> simp
theorem wsp_cons (l : List UInt8) : ∃ h t, wsp l = h :: t := by
  cases e : wsp l with
  | nil => exact absurd e (wsp_ne l)
  | cons h t => exact ⟨h, t, rfl⟩
theorem wsp_blank : ∀ l : List UInt8, wsp (l ++ [32]) = wsp l ++ [[]]
  | [] => by simp [wsp]
  | c :: l => by
    obtain ⟨h, t, e⟩ := wsp_cons l
    have i := wsp_blank l
    rw [List.cons_append]
    unfold wsp
    rw [i, e]
    split <;> simp
theorem wsp_other {c : UInt8} (hc : c ≠ 32) : ∀ (l : List UInt8) (a : List (List UInt8)) (b : List UInt8), wsp l = a ++ [b] → wsp (l ++ [c]) = a ++ [b ++ [c]]
  | [], a, b, h => by
    have h' : [[]] = a ++ [b] := h
    cases a with
    | nil => simp at h'; subst h'; simp [wsp, hc]
    | cons x y => simp at h'
  | d :: l, a, b, h => by
    obtain ⟨x, y, e⟩ := wsp_cons l
    rw [List.cons_append]
    unfold wsp at h ⊢
    rw [e] at h
    by_cases hd : d = 32
    · rw [if_pos hd] at h ⊢
      cases a with
      | nil => simp at h
      | cons p q =>
        simp at h
        obtain ⟨h1, h2⟩ := h
        rw [wsp_other hc l q b (by rw [e]; exact h2), ← h1]
        rfl
    · rw [if_neg hd] at h ⊢
      dsimp only at h
      cases a with
      | nil =>
        simp at h
        obtain ⟨h1, h2⟩ := h
        rw [wsp_other hc l [] x (by rw [e, h2]; rfl)]
        simp [← h1]
      | cons p q =>
        simp at h
        obtain ⟨h1, h2⟩ := h
        rw [wsp_other hc l (x :: q) b (by rw [e, h2]; rfl)]
        simp [← h1]
theorem wsp_join : ∀ l : List UInt8, Lib.join (wsp l) [32] = l
  | [] => by simp [wsp, Lib.join_one]
  | c :: l => by
    obtain ⟨x, y, e⟩ := wsp_cons l
    have i := wsp_join l
    unfold wsp
    rw [e] at i ⊢
    split
    · rename_i hc
      rw [join_two, i, hc]; rfl
    · show Lib.join ((c :: x) :: y) [32] = c :: l
      cases y with
      | nil => rw [Lib.join_one] at i ⊢; rw [i]
      | cons z r => rw [join_two] at i ⊢; rw [List.cons_append, i]
theorem wsp_no32 : ∀ l : List UInt8, ∀ y ∈ wsp l, ∀ c ∈ y, c ≠ 32
  | [], y, hy, c, hc => by
    simp [wsp] at hy; subst hy; cases hc
  | d :: l, y, hy, c, hc => by
    obtain ⟨p, q, e⟩ := wsp_cons l
    have i := wsp_no32 l
    unfold wsp at hy
    rw [e] at hy i
    split at hy
    · rcases List.mem_cons.1 hy with rfl | hy
      · cases hc
      · exact i y hy c hc
    · rename_i hd
      dsimp only at hy
      rcases List.mem_cons.1 hy with rfl | hy
      · rcases List.mem_cons.1 hc with rfl | hc
        · exact hd
        · exact i p (by simp) c hc
      · exact i y (by simp [hy]) c hc
theorem wsp_len_le (p q : List UInt8) : (wsp p).length ≤ (wsp (p ++ q)).length := by
  induction p with
  | nil =>
    obtain ⟨x, y, e⟩ := wsp_cons ([] ++ q)
    rw [e]; simp [wsp]
  | cons c p ih =>
    obtain ⟨x, y, e⟩ := wsp_cons p
    obtain ⟨x', y', e'⟩ := wsp_cons (p ++ q)
    rw [List.cons_append]
    unfold wsp
    rw [e, e'] at ih ⊢
    split
    · simp at ih ⊢; exact ih
    · simpa using ih
theorem wsp_le (l : List UInt8) : ∀ y ∈ wsp l, y.length ≤ l.length := by
  induction l with
  | nil => intro y hy; simp [wsp] at hy; subst hy; simp
  | cons c l ih =>
    obtain ⟨p, q, e⟩ := wsp_cons l
    intro y hy
    unfold wsp at hy
    rw [e] at hy ih
    split at hy
    · rcases List.mem_cons.1 hy with rfl | hy
      · simp
      · have := ih y hy; simp; omega
    · dsimp only at hy
      rcases List.mem_cons.1 hy with rfl | hy
      · have := ih p (by simp); simp; omega
      · have := ih y (by simp [hy]); simp; omega
/-- the words are what Split finds -/
theorem wsp_wds (s : ByteArray) : Lib.countB s ⟨#[32]⟩ + 1 = (wsp s.data.toList).length ∧ (wds s).map (·.data.toList) = wsp s.data.toList := by
  obtain ⟨x, xs, e⟩ := wsp_cons s.data.toList
  have k := words_join xs x (by rw [← e]; exact wsp_no32 _)
  rw [← e, wsp_join] at k
  have hc : Lib.countB s ⟨#[32]⟩ = xs.length := k.1
  refine ⟨by rw [hc, e]; simp, ?_⟩
  unfold wds
  rw [hc, Lib.splitB_data]
  show Lib.splitK [32] 0 xs.length s.data.toList = _
  exact k.2
end Go.Proofs.YtngbkdnkpolbfaaDoor
