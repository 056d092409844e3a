/- Plain facts on the place of an entrance in a way, and rows of orders and of texts that the call itself has made. Under no condition. -/
import Derived.Test.YtngbkdnkpolbfaaDoorFE
import Derived.Laws.OwnMore
namespace Go.Proofs.YtngbkdnkpolbfaaDoor
open Go.RowKit Go.Maps

/-- the place of an entrance in a way -/
def idx (x : ByteArray) : List Ord → Option Nat
  | [] => none
  | o :: l => if o.fr = x then some 0 else (idx x l).map (· + 1)
theorem idx_none {x : ByteArray} {l : List Ord} (h : idx x l = none) : x ∉ l.map Ord.fr := by
  induction l with
  | nil => simp
  | cons o l ih =>
    rw [idx] at h
    split at h
    · cases h
    · rename_i hne
      rw [Option.map_eq_none_iff] at h
      rw [List.map_cons, List.mem_cons]
      rintro (e | e)
      · exact hne e.symm
      · exact ih h e
theorem idx_some {x : ByteArray} {l : List Ord} : ∀ {i : Nat}, idx x l = some i → ∃ pre o post, l = pre ++ o :: post ∧ pre.length = i ∧ o.fr = x := by
  induction l with
  | nil => intro i h; cases h
  | cons o l ih =>
    intro i h
    rw [idx] at h
    split at h
    · rename_i he
      obtain rfl := Option.some.inj h
      exact ⟨[], o, l, rfl, rfl, he⟩
    · rw [Option.map_eq_some_iff] at h
      obtain ⟨j, hj, rfl⟩ := h
      obtain ⟨pre, p, post, rfl, hl, hf⟩ := ih hj
      exact ⟨o :: pre, p, post, rfl, by simp [hl], hf⟩
theorem idx_snoc {x : ByteArray} {l : List Ord} {o : Ord} (h : o.fr ∉ l.map Ord.fr) : idx x (l ++ [o]) = if x = o.fr then some l.length else idx x l := by
  induction l with
  | nil =>
    rw [List.nil_append, idx, idx]
    by_cases e : x = o.fr
    · rw [if_pos e.symm, if_pos e]; rfl
    · rw [if_neg (fun h => e h.symm), if_neg e]; rfl
  | cons p l ih =>
    rw [List.map_cons, List.mem_cons] at h
    have h1 : ¬ o.fr = p.fr := fun e => h (Or.inl e)
    have h2 := ih (fun e => h (Or.inr e))
    rw [List.cons_append, idx, h2, idx]
    by_cases e : x = o.fr
    · rw [if_pos e, if_pos e, if_neg (fun q => h1 (by rw [q, e]))]; rfl
    · rw [if_neg e, if_neg e]
/-- the places, as a map's elements -/
def plc (way : List Ord) (x : ByteArray) : Option Value := (idx x way).map fun i => .int .i64 (i : Int)
theorem plc_snoc {l : List Ord} {o : Ord} (h : o.fr ∉ l.map Ord.fr) : plc (l ++ [o]) = fun x => if x = o.fr then some (.int .i64 (l.length : Int)) else plc l x := by
  funext x
  unfold plc
  rw [idx_snoc h]
  by_cases e : x = o.fr <;> simp [e]
theorem nodup_le {a : List Ord} : ∀ {b : List Ord}, a.Nodup → (∀ x ∈ a, x ∈ b) → a.length ≤ b.length := by
  induction a with
  | nil => intro b _ _; simp
  | cons x a ih =>
    intro b hn hs
    rw [List.nodup_cons] at hn
    have hx : x ∈ b := hs x (by simp)
    obtain ⟨u, v, rfl⟩ := List.append_of_mem hx
    have := ih (b := u ++ v) hn.2 (fun y hy => by
      have h := hs y (by simp [hy])
      rw [List.mem_append, List.mem_cons] at h
      rw [List.mem_append]
      rcases h with h | h | h
      · exact Or.inl h
      · subst h; exact absurd hy hn.1
      · exact Or.inr h)
    simp only [List.length_cons, List.length_append] at *
    omega
/-- the cells of orders -/
def flatO (l : List Ord) : List Value := l.flatMap fun o => (encO o).toList
theorem flatO_app (a b : List Ord) : flatO (a ++ b) = flatO a ++ flatO b := List.flatMap_append
theorem flatO_one (o : Ord) : flatO [o] = [.string o.id, .string o.pn, .string o.fr, .string o.to, .int .i64 o.pf, .int .i64 o.pu] := rfl
theorem flatO_len (l : List Ord) : (flatO l).length = l.length * 6 := by
  induction l with
  | nil => rfl
  | cons o l ih => show ((encO o).toList ++ flatO l).length = _; rw [List.length_append, ih, List.length_cons]; simp; omega
theorem flatO_at (l : List Ord) (j : Nat) (h : j < l.length) : (flatO l)[j * 6]? = some (.string l[j].id) ∧ (flatO l)[j * 6 + 1]? = some (.string l[j].pn) ∧ (flatO l)[j * 6 + 2]? = some (.string l[j].fr) ∧ (flatO l)[j * 6 + 3]? = some (.string l[j].to) ∧ (flatO l)[j * 6 + 4]? = some (.int .i64 l[j].pf) ∧ (flatO l)[j * 6 + 5]? = some (.int .i64 l[j].pu) := by
  induction l generalizing j with
  | nil => simp at h
  | cons o l ih =>
    have e : flatO (o :: l) = [.string o.id, .string o.pn, .string o.fr, .string o.to, .int .i64 o.pf, .int .i64 o.pu] ++ flatO l := rfl
    cases j with
    | zero => rw [e]; exact ⟨rfl, rfl, rfl, rfl, rfl, rfl⟩
    | succ j =>
      have hj : j < l.length := by simpa using h
      obtain ⟨i0, i1, i2, i3, i4, i5⟩ := ih j hj
      rw [e]
      have k : ∀ q, (([.string o.id, .string o.pn, .string o.fr, .string o.to, .int .i64 o.pf, .int .i64 o.pu] : List Value) ++ flatO l)[(j + 1) * 6 + q]? = (flatO l)[j * 6 + q]? := fun q => by
        rw [List.getElem?_append_right (by simp; omega)]
        congr 1
        simp; omega
      exact ⟨(k 0).trans i0, (k 1).trans i1, (k 2).trans i2, (k 3).trans i3, (k 4).trans i4, (k 5).trans i5⟩
/-- an own row of orders reads as its list -/
theorem own_at6 {w : World} {base n : Nat} {v : Value} {l : List Ord} (h : w.ownsRow base 26 6 v n (flatO l)) (hne : l ≠ []) : n = l.length ∧ ∃ g cap, v = .slice (some ⟨g, 0, none⟩) l.length cap ∧ l.length ≤ cap ∧ base ≤ g ∧ g < w.heap.size ∧ ∀ j (hj : j < l.length), At6 w g (j * 6) l[j] := by
  have hn : n = l.length := by have := h.1; rw [flatO_len] at this; omega
  subst hn
  refine ⟨rfl, ?_⟩
  rcases h.2 with ⟨_, h0⟩ | ⟨g, cap, cur, rfl, hb, hg, hnc, _⟩
  · exact absurd (List.eq_nil_of_length_eq_zero h0) hne
  · refine ⟨g, cap, rfl, hnc, hb, ?_, fun j hj => ?_⟩
    · rcases Nat.lt_or_ge g w.heap.size with c | c
      · exact c
      · rw [Array.getElem?_eq_none c] at hg; cases hg
    · obtain ⟨i0, i1, i2, i3, i4, i5⟩ := flatO_at l j hj
      have k : ∀ q, q < 6 → w.cell? ⟨g, j * 6 + q, none⟩ = (flatO l)[j * 6 + q]? := fun q hq => h.cellAt (j * 6 + q) (by omega)
      exact ⟨(k 0 (by omega)).trans i0, (k 1 (by omega)).trans i1, (k 2 (by omega)).trans i2, (k 3 (by omega)).trans i3, (k 4 (by omega)).trans i4, (k 5 (by omega)).trans i5⟩
/-- the cells of texts -/
def strs (l : List ByteArray) : List Value := l.map Value.string
/-- a slice of texts that reads as a list -/
def RdS (w : World) (A : Option Addr) (l : List ByteArray) : Prop :=
  l = [] ∨ ∃ b off, A = some ⟨b, off, none⟩ ∧ b < w.heap.size ∧ ∀ j (h : j < l.length), w.cell? ⟨b, off + j, none⟩ = some (.string l[j])
theorem RdS.keep {w w' : World} {A : Option Addr} {l : List ByteArray} (h : RdS w A l) (hb : Below w.heap.size w w') : RdS w' A l := by
  rcases h with h | ⟨b, off, e, hlt, hc⟩
  · exact Or.inl h
  · refine Or.inr ⟨b, off, e, Nat.lt_of_lt_of_le hlt hb.size, fun j hj => ?_⟩
    rw [hb.cell (p := ⟨b, off + j, none⟩) hlt]; exact hc j hj
theorem own_strs {w : World} {base n : Nat} {v : Value} {l : List ByteArray} (h : w.ownsRow base 9 1 v n (strs l)) : n = l.length ∧ ∃ A c, v = .slice A l.length c ∧ l.length ≤ c ∧ RdS w A l := by
  have hn : n = l.length := by have := h.1; unfold strs at this; rw [List.length_map] at this; omega
  subst hn
  refine ⟨rfl, ?_⟩
  rcases h.2 with ⟨rfl, h0⟩ | ⟨g, cap, cur, rfl, hb, hg, hnc, _⟩
  · exact ⟨none, 0, by rw [h0], by omega, Or.inl (List.eq_nil_of_length_eq_zero h0)⟩
  · refine ⟨_, _, rfl, hnc, Or.inr ⟨g, 0, rfl, ?_, fun j hj => ?_⟩⟩
    · rcases Nat.lt_or_ge g w.heap.size with c | c
      · exact c
      · rw [Array.getElem?_eq_none c] at hg; cases hg
    · rw [Nat.zero_add, h.cellAt j (by omega)]
      unfold strs
      rw [List.getElem?_map, List.getElem?_eq_getElem hj]; rfl
end Go.Proofs.YtngbkdnkpolbfaaDoor
