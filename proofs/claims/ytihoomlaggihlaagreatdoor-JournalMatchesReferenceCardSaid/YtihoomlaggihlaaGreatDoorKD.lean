/- The contracts of the journal's text and split. Under the condition that the tables lie in memory as the program lays them. -/
import Derived.Test.YtihoomlaggihlaaGreatDoorKC
namespace Go.Proofs.YtihoomlaggihlaaGreatDoor
open Go.RowKit

/-- a slice of texts, in blocks outside a footprint -/
def SR (w : World) (F : Nat → Prop) (v : Value) (xs : List (List UInt8)) : Prop := ∃ a c, v = .slice a xs.length c ∧ xs.length ≤ c ∧ ∀ k (hk : k < xs.length), ∃ b o, a = some ⟨b, o, none⟩ ∧ ¬ F b ∧ w.cell? ⟨b, o + k, none⟩ = some (.string ⟨xs[k].toArray⟩)
theorem cell_lt {w : World} {a : Addr} {v : Value} (h : w.cell? a = some v) : a.block < w.heap.size := by
  by_cases e : a.block < w.heap.size
  · exact e
  · unfold World.cell? at h
    rw [Array.getElem?_eq_none (by omega)] at h
    cases h
theorem cell_same {w w' : World} {a : Addr} (h : w'.heap[a.block]? = w.heap[a.block]?) : w'.cell? a = w.cell? a := by
  unfold World.cell?
  rw [h]
theorem SR.out {w w' : World} {F : Nat → Prop} {v : Value} {xs : List (List UInt8)} (h : SR w F v xs) (o : Out F w w') : SR w' F v xs := by
  obtain ⟨a, c, e, hc, h⟩ := h
  refine ⟨a, c, e, hc, fun k hk => ?_⟩
  obtain ⟨b, p, e1, hF, hcell⟩ := h k hk
  refine ⟨b, p, e1, hF, ?_⟩
  rw [cell_same (o.block b (cell_lt hcell) hF)]; exact hcell
theorem SR.stp {w w' : World} {F F' : Nat → Prop} {v : Value} {xs : List (List UInt8)} (h : SR w F v xs) (o : Stp F w F' w') : SR w' F' v xs := by
  obtain ⟨a, c, e, hc, h⟩ := h
  refine ⟨a, c, e, hc, fun k hk => ?_⟩
  obtain ⟨b, p, e1, hF, hcell⟩ := h k hk
  have hb := cell_lt hcell
  refine ⟨b, p, e1, fun x => ?_, ?_⟩
  · rcases o.sub b x with y | y
    · exact hF y
    · simp at hb; omega
  · rw [cell_same (o.out.block b hb hF)]; exact hcell
theorem SR.below {w w' : World} {F : Nat → Prop} {v : Value} {xs : List (List UInt8)} (h : SR w F v xs) (o : Below w.heap.size w w') : SR w' F v xs := h.out (Out.of_below o)
theorem SR.weak {w : World} {F G : Nat → Prop} {v : Value} {xs : List (List UInt8)} (h : SR w F v xs) (hG : ∀ k, k < w.heap.size → G k → F k) : SR w G v xs := by
  obtain ⟨a, c, e, hc, h⟩ := h
  refine ⟨a, c, e, hc, fun k hk => ?_⟩
  obtain ⟨b, p, e1, hF, hcell⟩ := h k hk
  exact ⟨b, p, e1, fun x => hF (hG b (by have := cell_lt hcell; simpa using this) x), hcell⟩
def strs (l : List (List UInt8)) : List Value := l.map fun t => .string ⟨t.toArray⟩
/-- an own row of texts reads as a slice of texts -/
theorem SR.own {w : World} {F : Nat → Prop} {base : Nat} {v : Value} {xs : List (List UInt8)} (h : w.ownsRow base 9 1 v xs.length (strs xs)) (hF : ∀ k, v.ownBlock = some k → ¬ F k) : SR w F v xs := by
  rcases h.2 with ⟨rfl, e⟩ | ⟨g, cap, cur, rfl, _, hg, hc, _, _, ht⟩
  · obtain rfl : xs = [] := List.eq_nil_of_length_eq_zero e
    exact ⟨none, 0, rfl, Nat.le_refl _, fun k hk => absurd hk (by simp)⟩
  · refine ⟨_, cap, rfl, hc, fun k hk => ⟨g, 0, rfl, hF g rfl, ?_⟩⟩
    rw [Nat.zero_add]
    refine cell_at hg ?_
    have e : (cur.toList.take (xs.length * 1))[k]? = (strs xs)[k]? := by rw [ht]
    rw [List.getElem?_take_of_lt (by omega)] at e
    simpa [strs, hk] using e
theorem byte_str (l : List UInt8) : Lib.strCells ⟨l.toArray⟩ = Lib.byteCells l := rfl
theorem byte_app (a b : List UInt8) : Lib.byteCells (a ++ b) = Lib.byteCells a ++ Lib.byteCells b := by simp [Lib.byteCells]
theorem build0 (w : World) : Lib.IsBuilderF 58 5 w.heap.size w.heap.size (Lib.byteCells []) (w.alloc (.cells #[.pointer none, .slice none 0 0] 58)) :=
  Lib.IsBuilderF.of (Or.inl ⟨Nat.le_refl _, .slice none 0 0, heap_alloc_new w _, World.ownsRow_nil _ _ _ _, by simp [Value.ownBlock]⟩)
theorem rowF_below {w w' : World} {base e size n : Nat} {v : Value} {xs : List Value} (h : w.ownsRowF base e size v n xs) (o : Below w.heap.size w w') : w'.ownsRowF base e size v n xs := by
  refine ⟨h.1, ?_⟩
  rcases h.2 with h2 | ⟨g, cap, cur, fz, hv, h1, hg, h3⟩
  · exact Or.inl h2
  · exact Or.inr ⟨g, cap, cur, fz, hv, h1, (o.block _ (heap_lt hg)).trans hg, h3⟩
theorem bf_below {w w' : World} {B b : Nat} {bs : List Value} (h : Lib.IsBuilderF 58 5 B b bs w) (o : Below w.heap.size w w') : Lib.IsBuilderF 58 5 B b bs w' := by
  rcases h with ⟨h1, v, h2, h3, h4⟩ | ⟨h1, v, h2, h3, h4⟩
  · exact Or.inl ⟨h1, v, (o.block _ (heap_lt h2)).trans h2, rowF_below h3 o, h4⟩
  · exact Or.inr ⟨h1, v, (o.block _ (heap_lt h2)).trans h2, rowF_below h3 o, h4⟩
theorem textP_take (xs : List (List UInt8)) (k : Nat) (hk : k < xs.length) : textP (xs.take (k + 1)) = textP (xs.take k) ++ (Lib.decDigits xs[k].length ++ 58 :: xs[k]) := by
  rw [List.take_succ_eq_append_getElem hk, textP_app]
  simp [textP]
theorem textP_le (xs : List (List UInt8)) (k : Nat) : (textP (xs.take k)).length ≤ (textP xs).length := by
  conv => rhs; rw [← List.take_append_drop k xs, textP_app, List.length_append]
  omega
set_option maxHeartbeats 4000000 in
set_option maxRecDepth 100000 in
theorem text_any (w : World) (v : Value) (xs : List (List UInt8)) (h : SR w (fun _ => False) v xs) (hlen : (textP xs).length ≤ 10000000) (hL : Laid w) :
    Calls Tryz.prog 47 #[v] w fun e w' => e = .returned (.string ⟨(textP xs).toArray⟩) ∧ Below w.heap.size w w' := by
  have HL := Lib.hid hL
  have hmx : xs.length ≤ 10000000 := by
    have key : ∀ l : List (List UInt8), l.length ≤ (textP l).length := by
      intro l
      induction l with
      | nil => simp
      | cons r l ih => rw [textP_cons]; simp; omega
    exact Nat.le_trans (key xs) hlen
  have HLE := Lib.hid (textP_le xs)
  have HTK := Lib.hid (textP_take xs)
  have HB0 := Lib.hid (build0 w)
  have HG0 := Lib.hid (Gr.one w (.cells #[.pointer none, .slice none 0 0] 58)).below
  obtain ⟨a, c, rfl, hc, hcs⟩ := h
  have HCS := Lib.hid hcs
  clear hL hcs
  go_enter Tryz.func47, Tryz.ntmps47
  go_wp2_with fail
  generalize w.alloc (.cells #[.pointer none, .slice none 0 0] 58) = w1 at *
  obtain ⟨wo, rfl⟩ : ∃ wo : World, wo = w := ⟨_, rfl⟩
  go_loopw [5, 8] (fun _ i wr => ∃ k : Nat, k ≤ xs.length ∧ i = .int .i64 k ∧ Hid (Lib.IsBuilderF 58 5 wo.heap.size wo.heap.size (Lib.byteCells (textP (xs.take k))) wr) ∧ Hid (Below wo.heap.size wo wr)) (fun _ i _ => xs.length - (intOf i).toNat)
  case atStart => exact ⟨0, by omega, rfl, HB0, HG0⟩
  case round =>
    clear HB0 HG0
    obtain ⟨k, hk, rfl, HB, HG⟩ := hrel
    have hk0 : (0 : Int) ≤ (k : Int) := Int.natCast_nonneg _
    have hz : wo.heap.size ≤ wr.heap.size := HG.out.size
    by_cases hlt : k < xs.length
    · obtain ⟨b, o, rfl, _, hcell⟩ := HCS.out k hlt
      have cr : wr.cell? ⟨b, o + k, none⟩ = some (.string ⟨xs[k].toArray⟩) := (HG.out.cell (p := ⟨b, o + k, none⟩) (cell_lt hcell)).trans hcell
      have hk1 : (k : Int) < (xs.length : Int) := by omega
      have hsz : (⟨xs[k].toArray⟩ : ByteArray).size = xs[k].length := by simp [ByteArray.size]
      have HT := Lib.hid (HTK.out k hlt)
      have hle := HLE.out (k + 1)
      rw [HT.out] at hle
      simp only [List.length_append, List.length_cons] at hle
      have HH := Lib.hid hle
      have hx : xs[k].length ≤ 10000000 := by omega
      clear hcell hle
      generalize hX : xs[k] = x at *
      clear hX
      go_wp2_with fail
      have HIT := Lib.hid (show Lib.itoa (x.length : Int) = Lib.decDigits x.length by unfold Lib.itoa; rw [if_neg (by omega)]; rfl)
      refine (Tryz.strconv_Itoa (x.length : Int) (by omega) (by omega) _ (HL.out.keep HG.out).pow).mono ?_
      rintro e w2 ⟨rfl, q, os, hw2⟩
      have HB2 : Hid (Below wr.heap.size wr w2) := Lib.hid (by rw [hw2]; exact Lib.below_grow _ _ (Nat.le_refl _) _ _)
      clear hw2 cr
      rw [HIT.out]
      have hdz : (⟨(Lib.decDigits x.length).toArray⟩ : ByteArray).size = (Lib.decDigits x.length).length := by simp [ByteArray.size]
      have hd1 : (Lib.decDigits x.length).length + (x.length + 1) ≤ 10000000 := by have := HH.out; omega
      have hd2 : (textP (xs.take k)).length ≤ 10000000 := by have := HH.out; omega
      have HS1 : Hid ((⟨(Lib.decDigits x.length).toArray⟩ : ByteArray) ++ ⟨#[58]⟩ ++ ⟨x.toArray⟩ = ⟨(Lib.decDigits x.length ++ 58 :: x).toArray⟩) := Lib.hid (by
        apply ByteArray.ext; simp)
      go_wp2_with fail
      rw [HS1.out]
      refine (write_str wo.heap.size wo.heap.size _ ⟨(Lib.decDigits x.length ++ 58 :: x).toArray⟩ w2 (bf_below HB.out HB2.out) (by rw [Lib.byteCells_length]; simp [ByteArray.size]; omega) (by have := HB2.out.size; omega)).mono ?_
      rintro e w3 ⟨rfl, g1, g2⟩
      have G1 : Hid (Lib.IsBuilderF 58 5 wo.heap.size wo.heap.size (Lib.byteCells (textP (xs.take (k + 1)))) w3) := Lib.hid (by
        rw [HT.out, byte_app, ← byte_str (Lib.decDigits x.length ++ 58 :: x)]; exact Or.inr g1)
      have G2 := Lib.hid ((HG.out.trans (HB2.out.mono hz)).trans g2)
      clear g1 g2
      go_wp2_with fail
      go_roundw
      case rel => exact ⟨k + 1, by omega, by go_num, G1, G2⟩
      case measure => simp [intOf]; omega
    · obtain rfl : k = xs.length := by omega
      rw [List.take_length] at HB
      go_wp2_with fail
      refine (Tryz.Builder_String_any_f wo.heap.size wo.heap.size (textP xs) wr HB.out hz).mono ?_
      rintro e w2 ⟨rfl, _, g2⟩
      have G2 := Lib.hid (HG.out.trans g2)
      clear g2
      go_wp2_with fail
      go_ret
      exact ⟨rfl, G2.out⟩
end Go.Proofs.YtihoomlaggihlaaGreatDoor
