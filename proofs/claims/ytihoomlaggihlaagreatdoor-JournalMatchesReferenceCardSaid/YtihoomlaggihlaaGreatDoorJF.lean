/- The contract of the disk's set. Under no condition. -/
import Derived.Test.YtihoomlaggihlaaGreatDoorJE
import Derived.Lib.LazyBuf
import Derived.Lib.Walk
import Derived.BigGuard
import Derived.Shelf.RegionOpenPlain
namespace Go.Proofs.YtihoomlaggihlaaGreatDoor
open Go.RowKit

theorem heap_setCells_same (b : Nat) (t : TypeId) : ∀ (vs : List Value) (o : Nat) (w : World) (l : List Value), w.heap[b]? = some (.cells l.toArray t (0, 0)) → o + vs.length ≤ l.length → (w.setCells b o vs).heap[b]? = some (.cells (l.take o ++ vs ++ l.drop (o + vs.length)).toArray t (0, 0))
  | [], o, w, l, h, _ => by simpa [World.setCells] using h
  | v :: r, o, w, l, h, hl => by
    have k := heap_setCell_same w b o _ _ v h
    have e : (l.toArray.setIfInBounds o v) = (l.set o v).toArray := by simp
    have ih := heap_setCells_same b t r (o + 1) (w.setCell ⟨b, o, none⟩ v) (l.set o v) (by simpa using k) (by simp at hl ⊢; omega)
    rw [World.setCells, ih]
    congr 2
    have ho : o < l.length := by simp at hl; omega
    simp at hl
    congr 1
    apply List.ext_getElem?
    intro j
    simp [List.getElem?_append, List.getElem?_take, List.getElem?_drop, List.getElem?_set, List.getElem?_cons]
    grind

theorem Out.setCells {F : Nat → Prop} {b : Nat} (hF : F b) : ∀ (vs : List Value) (o : Nat) (w : World), Out F w (w.setCells b o vs)
  | [], _, w => Out.refl F w
  | v :: r, o, w => (Out.set w (a := ⟨b, o, none⟩) v hF).trans (Out.setCells hF r (o + 1) _) (fun _ e => Or.inl e)
theorem bytesV_length (t : List UInt8) : (bytesV t).length = t.length := by simp [bytesV]

set_option maxHeartbeats 4000000 in
set_option maxRecDepth 100000 in
theorem set_any (w : World) (d sb n i : Nat) (qv av : Value) (off : Bool) (l : List Value) (t : List UInt8) (h : DB w d sb n qv off av) (hs : w.heap[sb]? = some (.cells l.toArray 5 (0, 0))) (hl : l.length = 64 * n) (hi : i < n) (ht : t.length ≤ 64) :
    Calls Tryz.prog 62 #[.pointer (some ⟨d, 0, none⟩), .agg #[.int .i64 ((i : Int) * 64), .int .i64 (((i : Int) + 1) * 64)], .string ⟨t.toArray⟩] w fun e w' => e = .returned (.tuple #[]) ∧
      w'.heap[sb]? = some (.cells (l.take (64 * i) ++ bytesV t ++ l.drop (64 * i + t.length)).toArray 5 (0, 0)) ∧ Out (· = sb) w w' := by
  obtain ⟨hd, c0, c1, c2, c3, fz⟩ := h.cells
  clear h fz
  have W0 := Lib.hid hs
  have hi1 : (0 : Int) ≤ (i : Int) * 64 := by omega
  have hi2 : (i : Int) * 64 ≤ max (((i : Int) + 1) * 64) 0 := by omega
  have hi3 : ((i : Int) + 1) * 64 ≤ 64 * (n : Int) := by omega
  have hi4 : (0 : Int) ≤ ((i : Int) + 1) * 64 := by omega
  have t1 : ((i : Int) * 64).toNat = 64 * i := by omega
  have t2 : (((i : Int) + 1) * 64).toNat = 64 * i + 64 := by omega
  have hi5 : (i : Int) * 64 ≤ 64 * (i : Int) + 64 := by omega
  have hmix : Tryz.prog.follows Departure.mixedOrders = true := by decide
  have hu : Tryz.prog.underlying 56 = some (.slice 5) := by simp [go_sem]
  have hz : ∀ w : World, (Go.sizeOf 5).run Tryz.prog w = .ok 1 w := fun w => by simp [go_sem]
  have hne : ¬ 64 * n = 64 * i := by omega
  have hsz : (⟨t.toArray⟩ : ByteArray).size = t.length := by simp [ByteArray.size]
  have hsb := heap_lt hs
  have hK : ((w.alloc (.cells #[.int .i64 ((i : Int) * 64), .int .i64 (((i : Int) + 1) * 64)] 86)).drew).heap[sb]? = some (.cells l.toArray 5 (0, 0)) := ((Gr.one w (.cells #[.int .i64 ((i : Int) * 64), .int .i64 (((i : Int) + 1) * 64)] 86)).below.block _ hsb).trans hs
  have hc : ∀ j, j < (⟨t.toArray⟩ : ByteArray).size → ((w.alloc (.cells #[.int .i64 ((i : Int) * 64), .int .i64 (((i : Int) + 1) * 64)] 86)).drew.cell? ⟨sb, 64 * i + j, none⟩).isSome = true := fun j hj => by
    rw [cell_at hK (v := l[64 * i + j]'(by omega)) (by simp)]
    rfl
  have hf : ∀ j, j < (⟨t.toArray⟩ : ByteArray).size → (w.alloc (.cells #[.int .i64 ((i : Int) * 64), .int .i64 (((i : Int) + 1) * 64)] 86)).drew.frozen? ⟨sb, 64 * i + j, none⟩ = false := fun j _ => frozen_at hK _
  have hK' := Lib.hid hK
  clear hK
  go_enter Tryz.func62, Tryz.ntmps62
  go_wp2_with fail
  go_region_law_o (refine step_copy_string rfl (.tmp 14) (.tmp 15) 56 9 rfl 5 hu hz sb (64 * i) 64 (64 * n - 64 * i) (by simp [Act.eval, Act.put]) ⟨t.toArray⟩ (by simp [Act.eval, Act.put]) (by omega) hc hf ?_)
  all_goals (
    go_wp2_with fail
    go_end0
    refine ⟨rfl, ?_, ?_⟩
    · have k := heap_setCells_same sb 5 (bytesV t) (64 * i) _ l hK'.out (by rw [bytesV_length]; omega)
      rw [bytesV_length] at k
      exact k
    · exact (Out.of_below (Gr.one w (.cells #[.int .i64 ((i : Int) * 64), .int .i64 (((i : Int) + 1) * 64)] 86)).below.drew).trans (Out.setCells (F := (· = sb)) rfl _ _ _) (fun _ e => Or.inl e))
end Go.Proofs.YtihoomlaggihlaaGreatDoor
