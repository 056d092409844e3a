/- Plain facts: what Parse makes of a text; the text of an order is read back as the order. Under no condition. -/
import Derived.Test.YtngbkdnkpolbfaaDoorFO
namespace Go.Proofs.YtngbkdnkpolbfaaDoor
open Go.RowKit Go.Maps

theorem txt_inj (a b : Int) (a0 : 0 ≤ a) (a1 : a ≤ 100000) (b0 : 0 ≤ b) (b1 : b ≤ 100000) (h : txt a = txt b) : a = b := by
  obtain ⟨_, x, y, z, hp, hx, hy, hz⟩ := prt_txt a a0 a1 ⟨(txt a).toArray⟩ rfl
  obtain ⟨_, x', y', z', hp', hx', hy', hz'⟩ := prt_txt b b0 b1 ⟨(txt a).toArray⟩ h
  rw [hp] at hp'
  simp only [List.cons.injEq, and_true] at hp'
  obtain ⟨rfl, rfl, rfl⟩ := hp'
  have e1 : spY a = spY b := by have := hx.symm.trans hx'; injection this
  have e2 : spM a = spM b := by have := hy.symm.trans hy'; injection this
  have e3 : spD a = spD b := by have := hz.symm.trans hz'; injection this
  have k1 := (mk_split a a0 a1).2
  have k2 := (mk_split b b0 b1).2
  rw [e1, e2, e3] at k1
  omega
theorem txt_ten_len (a : Int) (a0 : 0 ≤ a) (a1 : a ≤ 100000) : (txt a).length = 10 := by
  rw [txt_ten a a0 a1]; rfl
/-- a number that Parse leaves for the text of a day -/
def DayIs (x : ByteArray) (v : Int) : Prop := 0 ≤ v ∧ v ≤ 100000 ∧ ∀ a : Int, 0 ≤ a → a ≤ 100000 → x.data.toList = txt a → v = a
/-- what Parse of package date leaves, in short -/
def DPost (s : ByteArray) (w : World) (e : Ending) (w' : World) : Prop :=
  ∃ v er : Int, e = .returned (.tuple #[.int .i64 v, .int .i64 er]) ∧ DayIs s v ∧ Below w.heap.size w w'
theorem dparse_any (s : ByteArray) (w : World) (hs : s.size ≤ 300) (hL : LaidT w) : Calls Tryd.prog 37 #[.string s] w (DPost s w) := by
  refine (parse_any s w hs hL).mono ?_
  rintro e w' ⟨hb, ⟨a, a0, a1, ha, he⟩ | ⟨hn, he⟩⟩
  · exact ⟨a, 0, he, ⟨a0, a1, fun b b0 b1 hb' => txt_inj a b a0 a1 b0 b1 (ha.symm.trans hb')⟩, hb⟩
  · exact ⟨0, 5, he, ⟨by omega, by omega, fun b b0 b1 hb' => absurd hb' (hn b b0 b1)⟩, hb⟩
/-- a number that is read for the last word -/
def UntIs (x : ByteArray) (v : Int) : Prop := (x.data.toList = [45] ∧ v = -1) ∨ (x.data.toList ≠ [45] ∧ DayIs x v)
theorem unt_read {x : ByteArray} {v p : Int} (h : UntIs x v) (p1 : p = -1 ∨ (0 ≤ p ∧ p ≤ 100000)) (hx : x.data.toList = unt p) : v = p := by
  unfold unt at hx
  rcases p1 with rfl | ⟨p0, p1⟩
  · rw [if_neg (by omega)] at hx
    rcases h with ⟨_, h⟩ | ⟨h, _⟩
    · exact h
    · exact absurd hx h
  · rw [if_pos p0] at hx
    rcases h with ⟨h, _⟩ | ⟨_, h⟩
    · have := txt_ten_len p p0 p1
      rw [← hx, h] at this
      simp at this
    · exact h.2.2 p p0 p1 hx
/-- an order is read back -/
theorem read_otxt {s x0 x1 x2 x3 x4 x5 x6 : ByteArray} (hw : wds s = [x0, x1, x2, x3, x4, x5, x6]) {v5 v6 : Int} (h5 : DayIs x5 v5) (h6 : UntIs x6 v6) (o : Ord) (h : oneB o = true) (hs : s.data.toList = otxt o) :
    o = ⟨x1, x2, x3, x4, v5, v6⟩ := by
  obtain ⟨_, hm⟩ := wds_otxt o h s hs
  rw [hw] at hm
  simp only [List.map_cons, List.map_nil, List.cons.injEq, and_true] at hm
  obtain ⟨_, e1, e2, e3, e4, e5, e6⟩ := hm
  obtain ⟨_, _, _, _, _, n6⟩ := one_parts h
  obtain ⟨p1, p2, p3⟩ := (prp_iff (o.pf, o.pu)).1 n6
  dsimp only at p1 p2 p3
  have k5 : v5 = o.pf := h5.2.2 _ p1 p2 e5
  have k6 : v6 = o.pu := unt_read h6 (by omega) e6
  have inj : ∀ a b : ByteArray, a.data.toList = b.data.toList → b = a := fun a b e => ByteArray.ext (Array.toList_inj.1 e.symm)
  obtain ⟨oi, op, of, ot, pf, pu⟩ := o
  simp only at e1 e2 e3 e4 k5 k6
  rw [inj _ _ e1, inj _ _ e2, inj _ _ e3, inj _ _ e4, k5, k6]
/-- what Parse leaves -/
def FPost (s : ByteArray) (w : World) (e : Ending) (w' : World) : Prop :=
  Below w.heap.size w w' ∧ ((∃ o : Ord, oneB o = true ∧ s.data.toList = otxt o ∧ e = .returned (.tuple #[.agg (encO o), .int .i64 0])) ∨ ((∀ o : Ord, oneB o = true → s.data.toList ≠ otxt o) ∧ e = .returned (.tuple #[.agg (encO zeroO), .int .i64 5])))
theorem wds_seven {s : ByteArray} (h : Lib.countB s ⟨#[32]⟩ = 6) : ∃ x0 x1 x2 x3 x4 x5 x6, wds s = [x0, x1, x2, x3, x4, x5, x6] := by
  have hl := Lib.splitB_all ⟨#[32]⟩ (by decide) 0 6 s h
  unfold wds
  rw [h]
  match hq : Lib.splitB ⟨#[32]⟩ 0 6 s, hl with
  | [x0, x1, x2, x3, x4, x5, x6], _ => exact ⟨_, _, _, _, _, _, _, rfl⟩
theorem wds_le {s x : ByteArray} (h : x ∈ wds s) : x.size ≤ s.size := part_le _ _ _ _ h
theorem txt_inj2 {a b : List UInt8} (h : (⟨a.toArray⟩ : ByteArray) = ⟨b.toArray⟩) : a = b := by
  have := congrArg (fun x : ByteArray => x.data.toList) h
  simpa using this
end Go.Proofs.YtngbkdnkpolbfaaDoor
