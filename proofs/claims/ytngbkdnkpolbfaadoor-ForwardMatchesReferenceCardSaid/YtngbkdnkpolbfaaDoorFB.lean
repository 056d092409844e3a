/- Maps keyed by texts, whatever their elements, as functions; the contracts of what the program asks of them. Under no condition but sizes. -/
import Derived.Test.YtngbkdnkpolbfaaDoorFA
import Derived.Maps.OwnOps
import Derived.Maps.OwnSet
namespace Go.Proofs.YtngbkdnkpolbfaaDoor
open Go.RowKit Go.Maps

theorem key9 : Keyed Tryd.prog 9 := string_keyed Tryd.underlying9
/-- an element as it stands -/
def heldE (v : Value) : Option (DataW Value × List MemPlace) := some (.held v, [])
/-- a block that is a map which reads as a function -/
def MapIs (w : World) (b n : Nat) (f : ByteArray → Option Value) : Prop :=
  ∃ D : DataW Value, w.ownsMap Tryd.prog 9 heldE b n D ∧ ∀ s : ByteArray, ∀ z, D.atKey (.string s.data.toList) z = match f s with | some v => .held v | none => z
theorem MapIs.same {w w' : World} {b n : Nat} {f : ByteArray → Option Value} (h : MapIs w b n f) (e : w'.heap[b]? = w.heap[b]?) : MapIs w' b n f := by
  obtain ⟨D, ⟨es, clock, hb, F, hs, hD⟩, hf⟩ := h
  exact ⟨D, ⟨es, clock, e.trans hb, F, hs, hD⟩, hf⟩
theorem MapIs.lt {w : World} {b n : Nat} {f : ByteArray → Option Value} (h : MapIs w b n f) : b < w.heap.size := by
  obtain ⟨D, h, _⟩ := h; exact h.lt
theorem MapIs.keep {w w' : World} {b n : Nat} {f : ByteArray → Option Value} (h : MapIs w b n f) (hb : Below w.heap.size w w') : MapIs w' b n f := h.same (hb.block b h.lt)
theorem MapIs.made (w : World) : MapIs (w.alloc (.map #[] 0)) w.heap.size 0 (fun _ => none) :=
  ⟨_, World.ownsMap_made w Tryd.prog 9 heldE, fun _ _ => rfl⟩
theorem MapIs.look {w : World} {b n : Nat} {f : ByteArray → Option Value} (h : MapIs w b n f) {t e : TypeId} (ht : Tryd.prog.underlying t = some (.map 9 e)) {z : Value} (hz : (zeroValue e).run Tryd.prog w = .ok z w) (s : ByteArray) (hs : s.size ≤ maxLen) (c : Bool) :
    (Instr.lookup t (.map (some b)) (.string s) c).run Tryd.prog w = .ok (match f s with | some v => (if c then .tuple #[v, .bool true] else v) | none => (if c then .tuple #[z, .bool false] else z)) w := by
  obtain ⟨D, ⟨es, clock, hb, F, _, rfl⟩, hf⟩ := h
  have hk := hf s
  rcases Maps.fit_look c key9 ht hz hb F (WideMaps.keyOf_string_mk Tryd.underlying9 hs) with ⟨hrun, _, hat⟩ | ⟨e0, y, _, _, hrun, hRv, hat, _⟩
  · rw [hrun]
    cases hv : f s with
    | none => rfl
    | some v =>
      have h1 := hat (.held (.bool true))
      rw [hk, hv] at h1
      have h2 := hat (.held (.bool false))
      rw [hk, hv] at h2
      rw [h1] at h2
      simp at h2
  · rw [hrun]
    have hy : y.1 = .held e0.val := by have h0 := Option.some.inj hRv; rw [← h0]
    cases hv : f s with
    | none =>
      have h1 := hat (.held (.bool true))
      have h2 := hat (.held (.bool false))
      rw [hk, hv] at h1 h2
      rw [← h1] at h2
      simp at h2
    | some v =>
      have h1 := hat (.held (.bool true))
      rw [hk, hv, hy] at h1
      rw [DataW.held.inj h1]
theorem MapIs.put {w : World} {b n : Nat} {f : ByteArray → Option Value} (h : MapIs w b n f) {t e : TypeId} (ht : Tryd.prog.underlying t = some (.map 9 e)) (hn : n < maxLen) (s : ByteArray) (hs : s.size ≤ maxLen) (v : Value) :
    ∃ w', (Instr.mapUpdate t (.map (some b)) (.string s) v).run Tryd.prog w = .ok () w' ∧ MapIs w' b (n + 1) (fun x => if x = s then some v else f x) ∧ w.grownBy w' (some b) := by
  obtain ⟨D, hown, hf⟩ := h
  obtain ⟨w', hrun, hown', hg⟩ := hown.update key9 ht hn (val := v) (d := .held v) (ps := []) (WideMaps.keyOf_string_mk Tryd.underlying9 hs) rfl
  refine ⟨w', hrun, ⟨_, hown', fun x z => ?_⟩, hg⟩
  by_cases e : x = s
  · subst e
    show _ = match (if x = x then some v else f x) with | some v => DataW.held v | none => z
    rw [if_pos rfl, atKey_put_same hown.isMap (key9.key (WideMaps.keyOf_string_mk Tryd.underlying9 hs))]
  · show _ = match (if x = s then some v else f x) with | some v => DataW.held v | none => z
    rw [if_neg e, atKey_put_other (fun h => e (ByteArray.ext (Array.toList_inj.1 (Lit.string.inj h)))), hf]
/-- a store into a map, at the operation -/
theorem wpList_put {w : World} {ops : Array Oper} {rest : List Oper} {o : Oper} {a : Act} {Q : Exit → Act → World → Prop}
    (hg : o.guard = none) (m x v : Operand) (t : TypeId) (hop : o.op = Op.mapUpdate t m x v) (e : TypeId) (ht : Tryd.prog.underlying t = some (.map 9 e)) (b n : Nat) (f : ByteArray → Option Value)
    (hm : a.eval m = .map (some b)) (hown : MapIs w b n f) (hn : n < maxLen) (s : ByteArray) (hx : a.eval x = .string s) (hs : s.size ≤ maxLen) (val : Value) (hv : a.eval v = val)
    (hK : ∀ w', MapIs w' b (n + 1) (fun x => if x = s then some val else f x) → w.grownBy w' (some b) → wpList Tryd.prog ops Q rest (a.put o.dst undef) w') :
    wpList Tryd.prog ops Q (o :: rest) a w := by
  refine wpList_plain hg fun K' hK' => ?_
  obtain ⟨w', hrun, r1, r2⟩ := hown.put ht hn s hs val
  unfold Oper.wp
  simp [execOp, hop, hm, hx, hv, hrun, Result.andThen]
  exact hK' _ _ (hK w' r1 r2)
/-- a look into a map, at the operation -/
theorem wpList_look {w : World} {ops : Array Oper} {rest : List Oper} {o : Oper} {a : Act} {Q : Exit → Act → World → Prop}
    (hg : o.guard = none) (m x : Operand) (t : TypeId) (c : Bool) (hop : o.op = Op.lookup t m x c) (e : TypeId) (ht : Tryd.prog.underlying t = some (.map 9 e)) (z : Value) (hz : (zeroValue e).run Tryd.prog w = .ok z w) (b n : Nat) (f : ByteArray → Option Value)
    (hm : a.eval m = .map (some b)) (hown : MapIs w b n f) (s : ByteArray) (hx : a.eval x = .string s) (hs : s.size ≤ maxLen) (r : Value) (hr : (match f s with | some v => (if c then .tuple #[v, .bool true] else v) | none => (if c then .tuple #[z, .bool false] else z)) = r)
    (hK : wpList Tryd.prog ops Q rest (a.put o.dst r) w) :
    wpList Tryd.prog ops Q (o :: rest) a w := by
  refine wpList_plain hg fun K' hK' => ?_
  have hrun := hown.look ht hz s hs c
  rw [hr] at hrun
  unfold Oper.wp
  simp [execOp, hop, hm, hx, hrun, Result.andThen]
  exact hK' _ _ hK
end Go.Proofs.YtngbkdnkpolbfaaDoor
