/- The contract of filled, where there is room for a journal. Under the condition that the tables lie in memory as the program lays them. -/
import Derived.Test.YtihoomlaggihlaaGreatDoorLA
namespace Go.Proofs.YtihoomlaggihlaaGreatDoor
open Go.RowKit

theorem dec_le (n : Nat) : (Lib.decDigits n).length ≤ n + 1 := by
  induction n using Nat.strongRecOn with
  | _ n ih =>
    by_cases hs : n < 10
    · rw [dec_small hs]; simp
    · rw [dec_big hs, List.length_append, List.length_singleton]
      have := ih (n / 10) (by omega)
      omega
theorem textP_dbl : ∀ l : List (List UInt8), (textP l).length ≤ 2 * sumLen l + 2 * l.length
  | [] => by simp [textP]
  | x :: l => by
    have i := textP_dbl l
    have d := dec_le x.length
    rw [textP_cons]
    simp only [List.length_append, List.length_cons, sumLen, List.map_cons, List.sum_cons] at *
    omega
/-- filled, some operations done -/
structure Fill (w0 : World) (l : List ROp) (k n d : Nat) (F G : Nat → Prop) (jb c : Nat) (S recs : List (List UInt8)) (av : Value) (w : World) : Prop where
  bel : Below w0.heap.size w0 w
  st : St w F G d jb n c S recs none
  ge : ∀ x, F x ∨ G x → w0.heap.size ≤ x
  own : w.ownsRow w0.heap.size 9 1 av recs.length (strs recs)
  far : ∀ x, av.ownBlock = some x → ¬ F x ∧ ¬ G x
  len : recs.length ≤ 20 * k
  sum : sumLen recs ≤ total (l.take k)
  b6 : 6 ≤ w0.heap.size
theorem total_mono (l : List ROp) (k : Nat) (hk : k < l.length) : total (l.take k) ≤ total (l.take (k + 1)) := by
  rw [total_take l k hk]; omega
/-- nothing was appended -/
theorem Fill.no {w0 w w' : World} {l : List ROp} {k n d jb c c' : Nat} {F G F' G' : Nat → Prop} {S S' recs : List (List UInt8)} {av : Value} (h : Fill w0 l k n d F G jb c S recs av w) (hk : k < l.length) (hs : Stp (fun x => F x ∨ G x) w (fun x => F' x ∨ G' x) w') (st : St w' F' G' d jb n c' S' recs none) : Fill w0 l (k + 1) n d F' G' jb c' S' recs av w' := by
  have hz := h.bel.size
  refine ⟨h.bel.trans (hs.out.below hz (fun x e => h.ge x e)), st, fun x e => ?_, hs.out.own h.own (fun x hx e => e.elim (h.far x hx).1 (h.far x hx).2), fun x hx => ?_, by have := h.len; omega, Nat.le_trans h.sum (total_mono l k hk), h.b6⟩
  · rcases hs.sub x e with y | y
    · exact h.ge x y
    · omega
  · have l1 := (h.own.lt x hx).2
    have key : ¬ (F' x ∨ G' x) := fun e => by
      rcases hs.sub x e with y | y
      · exact y.elim (h.far x hx).1 (h.far x hx).2
      · omega
    exact ⟨fun e => key (Or.inl e), fun e => key (Or.inr e)⟩
/-- a batch was appended, and noted -/
theorem Fill.yes {w0 w w1 w2 : World} {l : List ROp} {k n d jb c c' : Nat} {F G F' G' : Nat → Prop} {S S' recs : List (List UInt8)} {av av' : Value} (h : Fill w0 l k n d F G jb c S recs av w) (hk : k < l.length) (h20 : l[k].list.length ≤ 20) (hs : Stp (fun x => F x ∨ G x) w (fun x => F' x ∨ G' x) w1) (st : St w1 F' G' d jb n c' S' (recs ++ l[k].list) none)
    (own : w2.ownsRow w0.heap.size 9 1 av' (recs.length + l[k].list.length) (strs (recs ++ l[k].list))) (gr : w1.grownBy w2 av.ownBlock) (ob : av'.ownBlock = av.ownBlock ∨ av'.ownBlock = some w1.heap.size) : Fill w0 l (k + 1) n d F' G' jb c' S' (recs ++ l[k].list) av' w2 := by
  have hz := h.bel.size
  have B1 : Below w0.heap.size w0 w1 := h.bel.trans (hs.out.below hz (fun x e => h.ge x e))
  have o1 := hs.out.own h.own (fun x hx e => e.elim (h.far x hx).1 (h.far x hx).2)
  have f1 : ∀ x, av.ownBlock = some x → ¬ F' x ∧ ¬ G' x := fun x hx => by
    have l1 := (h.own.lt x hx).2
    have key : ¬ (F' x ∨ G' x) := fun e => by
      rcases hs.sub x e with y | y
      · exact y.elim (h.far x hx).1 (h.far x hx).2
      · omega
    exact ⟨fun e => key (Or.inl e), fun e => key (Or.inr e)⟩
  have og : Out (fun x => av.ownBlock = some x) w1 w2 := Out.grown gr (fun x e => e)
  have g1 : ∀ x, F' x ∨ G' x → w0.heap.size ≤ x := fun x e => by
    rcases hs.sub x e with y | y
    · exact h.ge x y
    · omega
  refine ⟨B1.grown gr B1.size (fun x hx => (o1.lt x hx).1), ⟨st.dat.out og (fun x e => (f1 x e).1), st.jat.out og (fun x e => (f1 x e).2), st.sep, st.good, st.n3, st.f6, st.lay.out og (fun x e => ?_)⟩, g1, by rw [List.length_append]; exact own, fun x hx => ?_, ?_, ?_, h.b6⟩
  · have := (o1.lt x e).1
    have := h.b6
    omega
  · rcases ob with ob | ob
    · exact f1 x (ob ▸ hx)
    · rw [ob] at hx
      cases hx
      exact ⟨fun e => by have := st.dat.lt _ e; omega, fun e => by have := st.jat.lt _ e; omega⟩
  · rw [List.length_append]; have := h.len; omega
  · rw [total_take l k hk]
    have := h.sum
    simp only [sumLen, List.map_append, List.sum_append] at *
    omega
theorem list_sum {l : List ROp} {k : Nat} (hk : k < l.length) : sumLen l[k].list ≤ total l := by
  have h1 := total_take l k hk
  have h2 : total (l.take (k + 1)) ≤ total l := by
    conv => rhs; rw [← List.take_append_drop (k + 1) l]
    simp only [total, List.map_append, List.sum_append]
    omega
  omega
end Go.Proofs.YtihoomlaggihlaaGreatDoor
