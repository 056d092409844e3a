/- Plain facts on the text of records: how it is read. No program in sight. Under no condition. -/
import Derived.Test.YtihoomlaggihlaaGreatDoorKN
import Derived.Lib.IndexMore
import Derived.Lib.IndexBytes
namespace Go.Proofs.YtihoomlaggihlaaGreatDoor

theorem ib_none (l : List UInt8) (h : (58 : UInt8) ∉ l) : Lib.indexByte l 58 = -1 := by
  induction l with
  | nil => rfl
  | cons x l ih =>
    have hx : x ≠ 58 := fun e => h (by rw [e]; simp)
    have := ih (fun hc => h (by simp [hc]))
    simp [Lib.indexByte, hx, this]
theorem ib_some (l r : List UInt8) (h : (58 : UInt8) ∉ l) : Lib.indexByte (l ++ 58 :: r) 58 = l.length := by
  induction l with
  | nil => simp [Lib.indexByte]
  | cons x l ih =>
    have hx : x ≠ 58 := fun e => h (by rw [e]; simp)
    have := ih (fun hc => h (by simp [hc]))
    simp [Lib.indexByte, hx, this]
theorem cut_none {r : List UInt8} (h : (58 : UInt8) ∉ r) : Lib.cut r [58] = (r, [], false) := by
  unfold Lib.cut
  rw [Lib.index_one, ib_none r h, if_neg (by decide)]
theorem cut_some {a b : List UInt8} (h : (58 : UInt8) ∉ a) : Lib.cut (a ++ 58 :: b) [58] = (a, b, true) := by
  unfold Lib.cut
  rw [Lib.index_one, ib_some a b h, if_pos (by omega)]
  simp
/-- a text that begins with a record -/
def HeadOk (r : List UInt8) : Prop := ∃ x r', x.length ≤ 20000 ∧ r = Lib.decDigits x.length ++ 58 :: (x ++ r')
theorem textP_split : ∀ (done recs : List (List UInt8)) (r : List UInt8), textP recs = textP done ++ r → ∃ recs', recs = done ++ recs' ∧ r = textP recs'
  | [], recs, r, h => ⟨recs, rfl, by rw [h]; rfl⟩
  | d :: done, [], r, h => by
    rw [textP_cons] at h
    have := congrArg List.length h
    simp [textP] at this
  | d :: done, y :: recs, r, h => by
    rw [textP_cons, textP_cons, List.append_assoc, List.cons_append, List.append_assoc] at h
    obtain ⟨e1, e2⟩ := colon_inj _ _ (colon_dec _) (colon_dec _) h
    have hl := dec_inj _ _ e1
    obtain ⟨e3, e4⟩ := List.append_inj e2 hl
    obtain ⟨recs', f1, f2⟩ := textP_split done recs r e4
    exact ⟨recs', by rw [e3, f1]; rfl, f2⟩
/-- where no record begins, the text is none of records -/
theorem not_text {done : List (List UInt8)} {r : List UInt8} (hr : r ≠ []) (h : ¬ HeadOk r) : ¬ ∃ recs, okR recs ∧ textP done ++ r = textP recs := by
  rintro ⟨recs, ho, e⟩
  obtain ⟨recs', rfl, f2⟩ := textP_split done recs r e.symm
  cases recs' with
  | nil => exact hr f2
  | cons x l =>
    refine h ⟨x, textP l, ho x (by simp), ?_⟩
    rw [f2, textP_cons]
/-- how a text's first part fails to be a record -/
theorem head_cases (r : List UInt8) : (58 ∉ r) ∨ ∃ a b, r = a ++ 58 :: b ∧ (58 : UInt8) ∉ a := by
  by_cases h : (58 : UInt8) ∈ r
  · obtain ⟨a, b, e, ha⟩ := List.eq_append_cons_of_mem h
    exact Or.inr ⟨a, b, e, ha⟩
  · exact Or.inl h
theorem not_head0 {r : List UInt8} (h : (58 : UInt8) ∉ r) : ¬ HeadOk r := by
  rintro ⟨x, r', _, e⟩
  exact h (by rw [e]; simp)
theorem not_head1 {a b : List UInt8} (ha : (58 : UInt8) ∉ a) (h : ∀ n, n ≤ 20000 → n ≤ b.length → Lib.decDigits n ≠ a) : ¬ HeadOk (a ++ 58 :: b) := by
  rintro ⟨x, r', hx, e⟩
  obtain ⟨e1, e2⟩ := colon_inj _ _ ha (colon_dec _) e
  exact h x.length hx (by rw [e2]; simp) e1.symm
theorem is_head {a b : List UInt8} {n : Nat} (h : Lib.decDigits n = a) (hn : n ≤ 20000) (hb : n ≤ b.length) : HeadOk (a ++ 58 :: b) :=
  ⟨b.take n, b.drop n, by simp; omega, by rw [List.length_take, Nat.min_eq_left hb, h, List.take_append_drop]⟩
end Go.Proofs.YtihoomlaggihlaaGreatDoor
