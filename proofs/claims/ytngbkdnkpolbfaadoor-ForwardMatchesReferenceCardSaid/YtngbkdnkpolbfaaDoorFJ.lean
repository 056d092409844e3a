/- Plain facts: greater texts are a strict order; newer orders are one, and of two proper ones with different identifiers one is newer. Under no condition. -/
import Derived.Test.YtngbkdnkpolbfaaDoorFD
namespace Go.Proofs.YtngbkdnkpolbfaaDoor
open Go.RowKit

theorem bl_tri : ∀ x y : List UInt8, Op.bytesLess x y = false → x ≠ y → Op.bytesLess y x = true
  | [], [], _, h => absurd rfl h
  | [], _ :: _, h, _ => by simp [Op.bytesLess] at h
  | _ :: _, [], _, _ => rfl
  | a :: x, b :: y, h, hne => by
    simp only [Op.bytesLess, Bool.or_eq_false_iff, decide_eq_false_iff_not, Bool.and_eq_false_iff] at h
    simp only [Op.bytesLess, Bool.or_eq_true, decide_eq_true_eq, Bool.and_eq_true, beq_iff_eq]
    by_cases e : b = a
    · right
      refine ⟨e, bl_tri x y ?_ (fun q => hne (by rw [e, q]))⟩
      rcases h.2 with h | h
      · rw [e] at h; simp at h
      · exact h
    · left
      have h1 := h.1
      rw [UInt8.lt_iff_toNat_lt] at *
      have : b.toNat ≠ a.toNat := fun q => e (UInt8.toNat_inj.1 q)
      omega
theorem bl_tr : ∀ x y z : List UInt8, Op.bytesLess x y = true → Op.bytesLess y z = true → Op.bytesLess x z = true
  | _, [], _, h, _ => by cases ‹List UInt8› <;> simp [Op.bytesLess] at h
  | _, _ :: _, [], _, h => by simp [Op.bytesLess] at h
  | [], _ :: _, _ :: _, _, _ => rfl
  | a :: x, b :: y, c :: z, h1, h2 => by
    simp only [Op.bytesLess, Bool.or_eq_true, decide_eq_true_eq, Bool.and_eq_true, beq_iff_eq] at h1 h2 ⊢
    rw [UInt8.lt_iff_toNat_lt] at *
    rcases h1 with h1 | ⟨rfl, h1⟩ <;> rcases h2 with h2 | ⟨rfl, h2⟩
    · left; omega
    · left; exact h1
    · left; exact h2
    · right; exact ⟨rfl, bl_tr x y z h1 h2⟩
theorem bl_irr : ∀ x : List UInt8, Op.bytesLess x x = false
  | [] => rfl
  | a :: x => by simp [Op.bytesLess, bl_irr x]
theorem sgt_iff (x y : ByteArray) : sgt x y = true ↔ Op.bytesLess y.toList x.toList = true := by
  unfold sgt
  rw [Bool.and_eq_true, Bool.not_eq_true', Bool.not_eq_true', beq_eq_false_iff_ne]
  constructor
  · rintro ⟨h1, h2⟩; exact bl_tri _ _ h1 h2
  · intro h
    refine ⟨?_, fun e => ?_⟩
    · cases h' : Op.bytesLess x.toList y.toList
      · rfl
      · have := bl_tr _ _ _ h h'; rw [bl_irr] at this; cases this
    · rw [e, bl_irr] at h; cases h
theorem sgt_irr (x : ByteArray) : sgt x x = false := by unfold sgt; simp
theorem sgt_tr {x y z : ByteArray} (h1 : sgt x y = true) (h2 : sgt y z = true) : sgt x z = true := by
  rw [sgt_iff] at *; exact bl_tr _ _ _ h2 h1
theorem sgt_tot {x y : ByteArray} (h : x ≠ y) : sgt x y = true ∨ sgt y x = true := by
  rw [sgt_iff, sgt_iff]
  cases h' : Op.bytesLess y.toList x.toList
  · right
    exact bl_tri _ _ h' (fun e => h (by rw [ByteArray.toList_eq, ByteArray.toList_eq] at e; exact (ByteArray.ext (Array.toList_inj.1 e)).symm))
  · left; rfl
theorem so_nw : SO nwB := ⟨fun a => by unfold nwB; rw [if_pos rfl, sgt_irr], fun a b c h1 h2 => by
  unfold nwB at *
  by_cases e1 : a.pf = b.pf <;> by_cases e2 : b.pf = c.pf
  · rw [if_pos e1] at h1; rw [if_pos e2] at h2; rw [if_pos (e1.trans e2)]; exact sgt_tr h1 h2
  · rw [if_neg e2, decide_eq_true_iff] at h2; rw [if_neg (by omega), decide_eq_true_iff]; omega
  · rw [if_neg e1, decide_eq_true_iff] at h1; rw [if_neg (by omega), decide_eq_true_iff]; omega
  · rw [if_neg e1, decide_eq_true_iff] at h1; rw [if_neg e2, decide_eq_true_iff] at h2; rw [if_neg (by omega), decide_eq_true_iff]; omega⟩
theorem id_inj {l : List Ord} (h : (ids l).Nodup) : ∀ a ∈ l, ∀ b ∈ l, a.id = b.id → a = b := by
  induction l with
  | nil => intro a ha; cases ha
  | cons o l ih =>
    have h' : o.id ∉ ids l ∧ (ids l).Nodup := List.nodup_cons.1 h
    intro a ha b hb e
    rcases List.mem_cons.1 ha with e1 | h1 <;> rcases List.mem_cons.1 hb with e2 | h2
    · rw [e1, e2]
    · exact absurd (show o.id ∈ ids l by rw [← e1, e]; exact List.mem_map_of_mem h2) h'.1
    · exact absurd (show o.id ∈ ids l by rw [← e2, ← e]; exact List.mem_map_of_mem h1) h'.1
    · exact ih h'.2 a h1 b h2 e
theorem tot_of (l : List Ord) (h : prpL l = true) : Tot nwB l := by
  intro a ha b hb hne
  unfold prpL at h
  rw [Bool.and_eq_true, decide_eq_true_iff] at h
  unfold nwB
  by_cases e : a.pf = b.pf
  · rw [if_pos e, if_pos e.symm]
    exact sgt_tot (fun q => hne (id_inj h.2 a ha b hb q))
  · rw [if_neg e, if_neg (fun q => e q.symm), decide_eq_true_iff, decide_eq_true_iff]; omega
end Go.Proofs.YtngbkdnkpolbfaaDoor
