/- The contracts of Atoi and Split where Parse calls them, and of Parse. Under the condition that the tables lie in memory as the program lays them. -/
import Derived.Test.YtngbkdnkpolbfaaDoorDT
import Derived.Test.YtngbkdnkpolbfaaDoorShB
import Derived.Test.YtngbkdnkpolbfaaDoorPlainT
namespace Go.Proofs.YtngbkdnkpolbfaaDoor
open Go.RowKit

/-- an error variable of the library's -/
def ErrAt (w : World) (g : Nat) : Prop := ∃ ev, w.cell? ⟨g, 0, none⟩ = some ev ∧ (ev = .nilIface ∨ ∃ te pe, ev = .iface te pe)
/-- the tables and the library's variables lie in memory -/
def LaidT (w : World) : Prop := Laid w ∧ ErrAt w 2 ∧ ErrAt w 3 ∧ ∃ m : Int, w.cell? ⟨1, 0, none⟩ = some (.int .i64 m)
theorem LaidT.keep {w w' : World} (h : LaidT w) (hb : Below w.heap.size w w') : LaidT w' := by
  obtain ⟨h0, ⟨e1, c1, d1⟩, ⟨e2, c2, d2⟩, m, c3⟩ := h
  exact ⟨h0.keep hb, ⟨e1, cell_later hb c1, d1⟩, ⟨e2, cell_later hb c2, d2⟩, m, cell_later hb c3⟩

/-- what Atoi leaves -/
def APost (s : ByteArray) (w : World) (e : Ending) (w' : World) : Prop :=
  ∃ (v : Int) (ev : Value), e = .returned (.tuple #[.int .i64 v, ev]) ∧ (∀ n, Lib.atoiAll s.data.toList = .ok n → v = n) ∧ Below w.heap.size w w'
theorem atoi_any (s : ByteArray) (w : World) (hs : s.size ≤ 300) (hL : LaidT w) : Calls Tryd.prog 54 #[.string s] w (APost s w) := by
  obtain ⟨_, ⟨e1, c1, d1⟩, ⟨e2, c2, d2⟩, _⟩ := hL
  cases h : Lib.atoiAll s.data.toList
  · rename_i v
    have := Any.strconv_Atoi_ok Tryd.laysC172 s (by omega) v h w
    change Calls Tryd.prog 54 _ _ _ at this
    refine this.mono ?_
    rintro e w' ⟨rfl, hw⟩
    refine ⟨v, _, rfl, fun n hn => (by rw [h] at hn; injection hn), ?_⟩
    rcases hw with rfl | ⟨t, rfl⟩
    · exact Below.refl _ _
    · exact Lib.bytesWorld_below _ _ _
  · have := Any.strconv_Atoi_syntax Tryd.laysC172 s (by omega) h e1 w c1 d1
    change Calls Tryd.prog 54 _ _ _ at this
    refine this.mono ?_
    rintro e w' ⟨N, rfl, _, _, hb⟩
    exact ⟨_, _, rfl, fun n hn => (by rw [h] at hn; cases hn), hb⟩
  · have := Any.strconv_Atoi_range Tryd.laysC172 s (by omega) h e2 w c2 d2
    change Calls Tryd.prog 54 _ _ _ at this
    refine this.mono ?_
    rintro e w' ⟨N, rfl, _, _, hb⟩
    exact ⟨_, _, rfl, fun n hn => (by rw [h] at hn; cases hn), hb⟩

/-- the parts of a text -/
def prt (s : ByteArray) : List ByteArray := Lib.splitB ⟨#[45]⟩ 0 (Lib.countB s ⟨#[45]⟩) s
theorem split_any (s : ByteArray) (w : World) (hs : s.size ≤ 300) (hL : LaidT w) : Calls Tryd.prog 36 #[.string s, .string ⟨#[45]⟩] w fun e w' =>
    e = .returned (.slice (some ⟨w.heap.size, 0, none⟩) (Lib.countB s ⟨#[45]⟩ + 1) (Lib.countB s ⟨#[45]⟩ + 1)) ∧ w' = w.alloc (.cells ((prt s).map Value.string).toArray 9) := by
  obtain ⟨_, _, _, m, c3⟩ := hL
  have := Any.strings_Split Tryd.lays146 (by kernel_rfl) s ⟨#[45]⟩ m w (by omega) c3 (by decide)
  exact this

theorem two_dg (n : Nat) (h : n < 100) : two n = [dg (n / 10), dg (n % 10)] := by
  unfold two; rw [dec_dg _ (by omega), dec_dg _ (by omega)]; rfl
theorem txt_ten (n : Int) (h0 : 0 ≤ n) (h1 : n ≤ 100000) : txt n = ten (spY n).toNat (spM n).toNat (spD n).toNat := by
  obtain ⟨y1, y2⟩ := split_yr n h0 h1
  obtain ⟨m1, m2, d1, d2, _⟩ := split_ok n
  have lb := len_bd (spY n) (spM n) m1 m2
  unfold txt
  rw [two_dg _ (by omega), two_dg _ (by omega)]
  have e := itoa_dg (spY n).toNat (by omega) (by omega)
  rw [Int.toNat_of_nonneg (by omega)] at e
  rw [e]
  rfl
/-- of a day's text the three numbers are its date's -/
theorem prt_txt (n : Int) (h0 : 0 ≤ n) (h1 : n ≤ 100000) (s : ByteArray) (hs : s.data.toList = txt n) :
    Lib.countB s ⟨#[45]⟩ = 2 ∧ ∃ x y z : ByteArray, prt s = [x, y, z] ∧ Lib.atoiAll x.data.toList = .ok (spY n) ∧ Lib.atoiAll y.data.toList = .ok (spM n) ∧ Lib.atoiAll z.data.toList = .ok (spD n) := by
  obtain ⟨y1, y2⟩ := split_yr n h0 h1
  obtain ⟨m1, m2, d1, d2, _⟩ := split_ok n
  have lb := len_bd (spY n) (spM n) m1 m2
  rw [txt_ten n h0 h1] at hs
  obtain ⟨c, p⟩ := ten_parts (spY n).toNat (spM n).toNat (spD n).toNat (by omega) (by omega) (by omega)
  have hc : Lib.countB s ⟨#[45]⟩ = 2 := by
    show Lib.count s.data.toList [45] = 2
    rw [hs]; exact c
  refine ⟨hc, ?_⟩
  have hm := Lib.splitB_data ⟨#[45]⟩ 0 2 s
  have hl := Lib.splitB_all ⟨#[45]⟩ (by decide) 0 2 s hc
  rw [hs] at hm
  change _ = Lib.splitK [45] 0 2 _ at hm
  rw [p] at hm
  have hp : prt s = Lib.splitB ⟨#[45]⟩ 0 2 s := by unfold prt; rw [hc]
  match hq : Lib.splitB ⟨#[45]⟩ 0 2 s, hl with
  | [x, y, z], _ =>
    rw [hq] at hm hp
    simp only [List.map_cons, List.map_nil, List.cons.injEq, and_true] at hm
    obtain ⟨hx, hy, hz⟩ := hm
    refine ⟨x, y, z, hp, ?_, ?_, ?_⟩
    · rw [hx, ← itoa_dg _ (by omega) (by omega), atoi4 _ (by omega) (by omega), Int.toNat_of_nonneg (by omega)]
    · rw [hy, atoi2 _ (by omega), Int.toNat_of_nonneg (by omega)]
    · rw [hz, atoi2 _ (by omega), Int.toNat_of_nonneg (by omega)]
end Go.Proofs.YtngbkdnkpolbfaaDoor
