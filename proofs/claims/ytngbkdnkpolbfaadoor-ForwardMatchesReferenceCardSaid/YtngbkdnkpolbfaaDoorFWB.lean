/- Words of the laws' walks. Under no condition. -/
import Derived.Test.YtngbkdnkpolbfaaDoorFV
namespace Go.Proofs.YtngbkdnkpolbfaaDoor
open Go.RowKit Go.Maps

/-- a law has returned true, and what lay in memory is as it was -/
abbrev Yes (w : World) (e : Ending) (w' : World) : Prop := e = .returned (.bool true) ∧ Below w.heap.size w w'
/-- an order's block -/
def Bx (w : World) (b : Nat) (o : Ord) : Prop := b < w.heap.size ∧ At6 w b 0 o ∧ ∀ j, w.frozen? ⟨b, j, none⟩ = false
theorem Bx.keep {w w' : World} {b : Nat} {o : Ord} (h : Bx w b o) (hb : Below w.heap.size w w') : Bx w' b o := Blk6.below h hb
theorem Bx.made (w : World) (o : Ord) (T : TypeId) : Bx (w.alloc (.cells (encO o) T)) w.heap.size o := Blk6.made w o T
/-- an order's text is its own -/
theorem otxt_inj {a b : Ord} (ha : oneB a = true) (hb : oneB b = true) (h : otxt a = otxt b) : a = b := by
  obtain ⟨hc, hm⟩ := wds_otxt a ha ⟨(otxt a).toArray⟩ rfl
  obtain ⟨x0, x1, x2, x3, x4, x5, x6, hx⟩ := wds_seven hc
  have day : ∀ o, oneB o = true → otxt o = otxt a → ∃ v5 v6, DayIs x5 v5 ∧ UntIs x6 v6 ∧ o.pf = v5 ∧ o.pu = v6 := by
    intro o ho he
    obtain ⟨_, hm'⟩ := wds_otxt o ho ⟨(otxt a).toArray⟩ he.symm
    rw [hx] at hm'
    simp only [List.map_cons, List.map_nil, List.cons.injEq, and_true] at hm'
    obtain ⟨_, _, _, _, _, e5, e6⟩ := hm'
    obtain ⟨_, _, _, _, _, n6⟩ := one_parts ho
    obtain ⟨p1, p2, p3⟩ := (prp_iff (o.pf, o.pu)).1 n6
    dsimp only at p1 p2 p3
    refine ⟨o.pf, o.pu, ⟨p1, p2, fun b b0 b1 hb => txt_inj o.pf b p1 p2 b0 b1 (e5.symm.trans hb)⟩, ?_, rfl, rfl⟩
    unfold unt at e6
    by_cases hu : 0 ≤ o.pu
    · rw [if_pos hu] at e6
      refine Or.inr ⟨?_, hu, by omega, fun b b0 b1 hb => txt_inj o.pu b hu (by omega) b0 b1 (e6.symm.trans hb)⟩
      rw [e6]
      intro h
      have := txt_ten_len o.pu hu (by omega)
      rw [h] at this
      simp at this
    · rw [if_neg hu] at e6
      exact Or.inl ⟨e6, by omega⟩
  obtain ⟨v5, v6, d5, d6, _, _⟩ := day a ha rfl
  have k1 := read_otxt hx d5 d6 a ha rfl
  have k2 := read_otxt hx d5 d6 b hb h
  rw [k1, k2]
/-- Parse reads an order's text -/
theorem fparse_txt (o : Ord) (w : World) (hL : LaidT w) (h : oneB o = true) (hz : (otxt o).length ≤ 300) : Calls Tryd.prog 16 #[.string ⟨(otxt o).toArray⟩] w fun e w' => e = .returned (.tuple #[.agg (encO o), .int .i64 0]) ∧ Below w.heap.size w w' := by
  refine (fparse_any ⟨(otxt o).toArray⟩ w (by show (otxt o).toArray.size ≤ 300; simpa using hz) hL).mono ?_
  rintro e w' ⟨hb, ⟨p, hp, ht, he⟩ | ⟨hn, _⟩⟩
  · have : o = p := otxt_inj h hp ht
    subst this
    exact ⟨he, hb⟩
  · exact absurd rfl (hn o h)
theorem fparse_yes (s : ByteArray) (o : Ord) (w : World) (hL : LaidT w) (h : oneB o = true) (hs : s.size ≤ 300) (ht : s.data.toList = otxt o) : Calls Tryd.prog 16 #[.string s] w fun e w' => e = .returned (.tuple #[.agg (encO o), .int .i64 0]) ∧ Below w.heap.size w w' := by
  have : s = ⟨(otxt o).toArray⟩ := ByteArray.ext (by rw [← ht])
  rw [this] at hs ⊢
  exact fparse_txt o w hL h (by have k : (otxt o).toArray.size ≤ 300 := hs; simpa using k)
theorem fparse_no (s : ByteArray) (w : World) (hL : LaidT w) (hs : s.size ≤ 300) (hn : ∀ o, oneB o = true → s.data.toList ≠ otxt o) : Calls Tryd.prog 16 #[.string s] w fun e w' => e = .returned (.tuple #[.agg (encO zeroO), .int .i64 5]) ∧ Below w.heap.size w w' := by
  refine (fparse_any s w hs hL).mono ?_
  rintro e w' ⟨hb, ⟨p, hp, ht, he⟩ | ⟨_, he⟩⟩
  · exact absurd ht (hn p hp)
  · exact ⟨he, hb⟩
theorem unt_len (u : Int) (h : u ≤ 100000) : (unt u).length ≤ 10 := by
  unfold unt
  split
  · exact txt_len u (by omega) h
  · simp
theorem otxt_len {o : Ord} (h : oneB o = true) : (otxt o).length ≤ 300 := by
  obtain ⟨n1, n2, n3, n4, _, n6⟩ := one_parts h
  obtain ⟨p1, p2, p3⟩ := (prp_iff (o.pf, o.pu)).1 n6
  dsimp only at p1 p2 p3
  have z1 := (nm_size n1).2
  have z2 := (nm_size n2).2
  have z3 := (nm_size n3).2
  have z4 := (nm_size n4).2
  have l1 := txt_len o.pf p1 p2
  have l2 := unt_len o.pu (by omega)
  unfold otxt
  simp [Lib.join] at *
  omega
theorem prop_one (o : Ord) {b : Bool} (h : oneB o = b) (hs : Small o) (A : Option Addr) (c : Nat) (w : World) (hr : RdO w A [o]) : Calls Tryd.prog 18 #[.slice A 1 c] w fun e w' => e = .returned (.bool b) ∧ Below w.heap.size w w' := by
  have := proper_list A c [o] w hr (by simp) (fun p hp => by rw [List.mem_singleton.1 hp]; exact hs)
  rw [prpL_one, h] at this
  exact this
theorem few_two (a b : Ord) {r : Bool} (h : fewB [a, b] = r) (A : Option Addr) (c : Nat) (w : World) (hr : RdO w A [a, b]) : Calls Tryd.prog 10 #[.slice A 2 c] w fun e w' => e = .returned (.bool r) ∧ w = w' := by
  have := few_any A c [a, b] w hr
  rw [h] at this
  exact this
end Go.Proofs.YtngbkdnkpolbfaaDoor
