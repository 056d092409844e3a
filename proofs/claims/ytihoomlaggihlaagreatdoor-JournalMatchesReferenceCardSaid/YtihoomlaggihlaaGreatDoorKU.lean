/- Append's door: the deferred closure marks the journal, and the result is read. Under no condition. -/
import Derived.Test.YtihoomlaggihlaaGreatDoorKT
namespace Go.Proofs.YtihoomlaggihlaaGreatDoor
open Go.RowKit

theorem leave18 {R : Ending → World → Prop} {tmps : Array Value} {wd : World} {jb bj : Nat} {x : Int} {q : Bool} (hq : q = decide (¬ x = 0)) (ht : tmps.getD 4 undef = .pointer (some ⟨bj + 1, 0, none⟩))
    (m : (∃ a b e v u, wd.heap[jb]? = some (.cells #[a, b, e, v, u] 53 (0, 0))) ∧ wd.heap[bj]? = some (.cells #[.pointer (some ⟨jb, 0, none⟩)] 25 (0, 0)) ∧ wd.heap[bj + 1]? = some (.cells #[.int .i64 x] 27 (0, 0)) ∧ R (.returned (.int .i64 x)) (wd.setCell ⟨jb, 4, none⟩ (.bool q))) :
    bodyPostD Tryz.prog Tryz.f13 R .ret { tmps := tmps, defers := [{ target := .fn (.func 48) #[.pointer (some ⟨bj + 1, 0, none⟩), .pointer (some ⟨bj, 0, none⟩)], args := #[] }] } wd := by
  obtain ⟨⟨a, b, e, v, u, m1⟩, m2, m3, m4⟩ := m
  refine leaves_cons (f := 48) (args := #[.pointer (some ⟨bj + 1, 0, none⟩), .pointer (some ⟨bj, 0, none⟩)]) (by simp) (by simp [go_sem]) ?_
  refine (cl_mark wd .returning jb (bj + 1) bj x q hq a b e v u m1 m2 m3).mono ?_
  rintro e' u' w'' ⟨rfl, rfl, rfl⟩
  have o : Out (· = jb) wd (wd.setCell ⟨jb, 4, none⟩ (.bool q)) := Out.set wd (a := ⟨jb, 4, none⟩) _ rfl
  have c : (wd.setCell ⟨jb, 4, none⟩ (.bool q)).cell? ⟨bj + 1, 0, none⟩ = some (.int .i64 x) := cell_at (o.heap m3 (tag_ne m3 m1 (by decide))) rfl
  have ht' : tmps[4]?.getD undef = .pointer (some ⟨bj + 1, 0, none⟩) := by simpa using ht
  refine ⟨.int .i64 x, ?_, m4⟩
  simp [results, Tryz.results13, go_sem, c, ht']
theorem SR.news {w : World} {F : Nat → Prop} {b o c : Nat} {xs : List (List UInt8)} (h : SR w F (.slice (some ⟨b, o, none⟩) xs.length c) xs) (j : Nat) (u : Value) (hu : (strs xs)[j]? = some u) : w.cell? ((⟨b, o, none⟩ : Addr).add j) = some u := by
  obtain ⟨a, c', e, _, hcs⟩ := h
  cases e
  have hj : j < xs.length := by
    have := (List.getElem?_eq_some_iff.1 hu).1
    simpa [strs] using this
  obtain ⟨b', o', e1, _, hc⟩ := hcs j hj
  cases e1
  have : u = .string ⟨xs[j].toArray⟩ := by
    simp [strs, List.getElem?_eq_getElem hj] at hu
    exact hu.symm
  rw [this, show (⟨b, o, none⟩ : Addr).add j = ⟨b, o + j, none⟩ by cases j <;> simp [Addr.add]]
  exact hc
/-- the slice's cells lie in old memory -/
theorem SR.old {w : World} {F : Nat → Prop} {v : Value} {xs : List (List UInt8)} (h : SR w F v xs) : SR w (fun k => F k ∨ w.heap.size ≤ k) v xs := by
  obtain ⟨a, c, e, hc, h⟩ := h
  refine ⟨a, c, e, hc, fun k hk => ?_⟩
  obtain ⟨b, o, e1, hF, hcell⟩ := h k hk
  exact ⟨b, o, e1, fun x => x.elim hF (fun x => by have := cell_lt hcell; simp at this; omega), hcell⟩
end Go.Proofs.YtihoomlaggihlaaGreatDoor
