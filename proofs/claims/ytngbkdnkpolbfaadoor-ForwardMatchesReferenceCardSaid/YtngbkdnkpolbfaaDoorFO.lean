/- Plain facts: an order's text is read back as the order. Under no condition. -/
import Derived.Test.YtngbkdnkpolbfaaDoorFM
import Derived.Test.YtngbkdnkpolbfaaDoorFN
namespace Go.Proofs.YtngbkdnkpolbfaaDoor
open Go.RowKit Go.Maps

theorem chk_no32 (l : List UInt8) : ∀ i, chk i l = true → ∀ c ∈ l, c ≠ 32 := by
  induction l with
  | nil => intro i _ c hc; cases hc
  | cons a l ih =>
    intro i h c hc
    rw [chk, Bool.and_eq_true] at h
    rcases List.mem_cons.1 hc with rfl | hc
    · rintro rfl
      have := h.1
      unfold okc at this
      revert this; simp
    · exact ih _ h.2 c hc
theorem nm_no32 {s : ByteArray} (h : nmB s = true) : ∀ c ∈ s.data.toList, c ≠ 32 := by
  unfold nmB at h
  rw [Bool.and_eq_true] at h
  exact chk_no32 _ 0 h.1
theorem dg_ne32 : ∀ k : Nat, k < 10 → dg k ≠ 32 := by decide
theorem txt_no32 (n : Int) (h0 : 0 ≤ n) (h1 : n ≤ 100000) : ∀ c ∈ txt n, c ≠ 32 := by
  obtain ⟨y1, y2⟩ := split_yr n h0 h1
  obtain ⟨m1, m2, d1, d2, _⟩ := split_ok n
  have hl := len_bd (spY n) (spM n) m1 m2
  rw [txt_ten n h0 h1]
  intro c hc
  unfold ten at hc
  simp only [List.mem_cons, List.not_mem_nil, or_false] at hc
  rcases hc with h | h | h | h | h | h | h | h | h | h <;> subst h <;> first | decide | exact dg_ne32 _ (by omega)
theorem unt_no32 (u : Int) (h : u ≤ 100000) : ∀ c ∈ unt u, c ≠ 32 := by
  unfold unt
  split
  · exact txt_no32 u (by omega) h
  · intro c hc; simp at hc; subst hc; decide
/-- the words of an order's text -/
theorem wds_otxt (o : Ord) (h : oneB o = true) (s : ByteArray) (hs : s.data.toList = otxt o) :
    Lib.countB s ⟨#[32]⟩ = 6 ∧ (wds s).map (·.data.toList) = [[111, 114, 100, 101, 114], o.id.data.toList, o.pn.data.toList, o.fr.data.toList, o.to.data.toList, txt o.pf, unt o.pu] := by
  obtain ⟨n1, n2, n3, n4, _, n6⟩ := one_parts h
  obtain ⟨p1, p2, p3⟩ := (prp_iff (o.pf, o.pu)).1 n6
  dsimp only at p1 p2 p3
  have k := words_join [o.id.data.toList, o.pn.data.toList, o.fr.data.toList, o.to.data.toList, txt o.pf, unt o.pu] [111, 114, 100, 101, 114] (by
    intro y hy
    simp only [List.mem_cons, List.not_mem_nil, or_false] at hy
    rcases hy with e | e | e | e | e | e | e <;> subst e
    · decide
    · exact nm_no32 n1
    · exact nm_no32 n2
    · exact nm_no32 n3
    · exact nm_no32 n4
    · exact txt_no32 _ p1 p2
    · exact unt_no32 _ (by omega))
  have hc : Lib.countB s ⟨#[32]⟩ = 6 := by
    show Lib.count s.data.toList [32] = 6
    rw [hs]; exact k.1
  refine ⟨hc, ?_⟩
  unfold wds
  rw [hc, Lib.splitB_data]
  show Lib.splitK [32] 0 6 s.data.toList = _
  rw [hs]; exact k.2
end Go.Proofs.YtngbkdnkpolbfaaDoor
