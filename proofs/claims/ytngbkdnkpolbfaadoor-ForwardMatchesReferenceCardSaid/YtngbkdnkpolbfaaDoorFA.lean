/- The contracts of isName and newer. Under no condition but sizes. -/
import Derived.Test.YtngbkdnkpolbfaaDoorRows
import Derived.Test.YtngbkdnkpolbfaaDoorFp
import Derived.WalkKit
import Derived.WalkSpells
import Derived.WalkLawsBesides
import Derived.Deep.QuietTactic
import Derived.BigQuiet
import Derived.Lib.Hide
import Derived.Shelf.SlSortCmp.QuietGrown
import Derived.Lib.AppendIntMem
namespace Go.Proofs.YtngbkdnkpolbfaaDoor
open Go.RowKit

/-- the world has grown: draws, and blocks behind it -/
def Gr (w w' : World) : Prop := ∃ q os, w' = Sort.grow (w.drewN q) os
theorem Gr.refl (w : World) : Gr w w := ⟨0, #[], by rw [Sort.grow_empty]; rfl⟩
theorem Gr.trans {w w1 w2 : World} (h : Gr w w1) (g : Gr w1 w2) : Gr w w2 := by
  obtain ⟨q, os, rfl⟩ := h
  obtain ⟨q', os', rfl⟩ := g
  exact ⟨q + q', os ++ os', by show Sort.grow (Sort.grow ((w.drewN q).drewN q') os) os' = _; rw [Sort.grow_grow, World.drewN_drewN]⟩
theorem Gr.one (w : World) (o : Obj) : Gr w (w.alloc o) := ⟨0, _, by rw [Sort.alloc_eq_grow]; rfl⟩
theorem Gr.alloc {w w1 : World} (h : Gr w w1) (o : Obj) : Gr w (w1.alloc o) := h.trans (Gr.one w1 o)
theorem Gr.drewN (w : World) (n : Nat) : Gr w (w.drewN n) := ⟨n, #[], by rw [Sort.grow_empty]⟩
theorem Gr.drewn (w : World) : Gr w w.drew := ⟨1, #[], by rw [Sort.grow_empty]; rfl⟩
theorem Gr.below {w w' : World} (h : Gr w w') : Below w.heap.size w w' := by
  obtain ⟨q, os, rfl⟩ := h
  exact Lib.below_grow _ _ (Nat.le_refl _) _ _
theorem Gr.size {w w' : World} (h : Gr w w') : w.heap.size ≤ w'.heap.size := h.below.size

/-- a byte that may stand at a place of a name -/
def okc (i : Nat) (c : Nat) : Bool := decide ((97 ≤ c ∧ c ≤ 122) ∨ (65 ≤ c ∧ c ≤ 90)) || (decide (i ≠ 0) && decide (c = 95 ∨ (48 ≤ c ∧ c ≤ 57)))
/-- bytes that may stand in a name from a place on -/
def chk : Nat → List UInt8 → Bool
  | _, [] => true
  | i, c :: l => okc i c.toNat && chk (i + 1) l
/-- whether a text is a name -/
def nmB (s : ByteArray) : Bool := chk 0 s.data.toList && decide (0 < s.size ∧ s.size ≤ 24)
theorem chk_app (l r : List UInt8) : ∀ i, chk i (l ++ r) = (chk i l && chk (i + l.length) r) := by
  induction l with
  | nil => intro i; simp [chk]
  | cons c l ih => intro i; rw [List.cons_append, chk, chk, ih, Bool.and_assoc, List.length_cons, Nat.add_right_comm, Nat.add_assoc]
theorem chk_take (s : ByteArray) (k : Nat) (h : k < s.size) (hk : chk 0 (s.data.toList.take k) = true) : chk 0 (s.data.toList.take (k + 1)) = okc k (s[k]).toNat := by
  have hl : k < s.data.toList.length := by simpa using h
  rw [List.take_succ_eq_append_getElem hl, chk_app, hk, Bool.true_and, chk, chk, Bool.and_true, List.length_take, Nat.zero_add, Nat.min_eq_left (by omega)]
  rfl
theorem chk_fall (s : ByteArray) (k : Nat) (h : chk 0 (s.data.toList.take k) = false) : nmB s = false := by
  unfold nmB
  have e : s.data.toList = s.data.toList.take k ++ s.data.toList.drop k := (List.take_append_drop k _).symm
  rw [e, chk_app, h]; rfl
theorem chk_all (s : ByteArray) (h : chk 0 (s.data.toList.take s.size) = true) : nmB s = decide (0 < s.size ∧ s.size ≤ 24) := by
  unfold nmB
  rw [List.take_of_length_le (by simp)] at h
  rw [h, Bool.true_and]

set_option maxHeartbeats 4000000 in
set_option maxRecDepth 100000 in
theorem name_any (s : ByteArray) (w : World) (hs : s.size ≤ 1000) :
    Calls Tryd.prog 27 #[.string s] w fun e w' => e = .returned (.bool (nmB s)) ∧ w = w' := by
  have HT := Lib.hid (chk_take s)
  have HF := Lib.hid (chk_fall s)
  have HA := Lib.hid (chk_all s)
  have HE := Lib.hid (show (s.toList = []) ↔ s.size = 0 by rw [ByteArray.toList_eq, ← List.length_eq_zero_iff]; simp)
  generalize nmB s = B at *
  go_enter Tryd.func27, Tryd.ntmps27
  go_wp2_with fail
  go_loop [3, 4, 5, 8] (fun _i _c _l iv => ∃ k : Nat, k ≤ s.size ∧ iv = .int .i64 k ∧ Hid (chk 0 (s.data.toList.take k) = true)) (fun _ _ _ i => s.size - (intOf i).toNat)
  case atStart => exact ⟨0, by omega, rfl, Lib.hid rfl⟩
  case round =>
    obtain ⟨k, hk, rfl, HK⟩ := hrel
    by_cases hlt : k < s.size
    · have HS := Lib.hid (HT.out k hlt HK.out)
      have hc := (s[k]).toNat_lt
      have HOK : Hid (okc k (s[k]).toNat = false → B = false) := Lib.hid (fun h => HF.out (k + 1) (by rw [HS.out]; exact h))
      clear HT HF HA HK
      by_cases hk0 : k = 0
      · have b0 : ((k : Int) == 0) = true := by rw [beq_iff_eq]; omega
        have HK0 := Lib.hid hk0
        have hk1 : k ≤ 0 := by omega
        clear hk0
        rcases (show (s[k]).toNat < 65 ∨ (65 ≤ (s[k]).toNat ∧ (s[k]).toNat ≤ 90) ∨ (91 ≤ (s[k]).toNat ∧ (s[k]).toNat ≤ 96) ∨ (97 ≤ (s[k]).toNat ∧ (s[k]).toNat ≤ 122) ∨ 123 ≤ (s[k]).toNat by omega) with h | ⟨h, h'⟩ | ⟨h, h'⟩ | ⟨h, h'⟩ | h
        · have HB := Lib.hid (HOK.out (by unfold okc; generalize (s[k]).toNat = cc at *; rw [HK0.out]; simp; omega))
          have d90 : decide (((s[k]).toNat : Int) ≤ 90) = (decide ((s[k]).toNat ≤ 90)) := by rw [decide_eq_decide]; omega
          have d122 : decide (((s[k]).toNat : Int) ≤ 122) = (decide ((s[k]).toNat ≤ 122)) := by rw [decide_eq_decide]; omega
          first | rw [decide_eq_true (show (s[k]).toNat ≤ 90 by omega)] at d90 | rw [decide_eq_false (show ¬ (s[k]).toNat ≤ 90 by omega)] at d90
          first | rw [decide_eq_true (show (s[k]).toNat ≤ 122 by omega)] at d122 | rw [decide_eq_false (show ¬ (s[k]).toNat ≤ 122 by omega)] at d122
          go_wp2_with fail
          go_ret
          exact ⟨by rw [HB.out]; rfl, rfl⟩
        · have HN := Lib.hid (show okc k (s[k]).toNat = true by unfold okc; generalize (s[k]).toNat = cc at *; rw [HK0.out]; simp; omega)
          have d90 : decide (((s[k]).toNat : Int) ≤ 90) = (decide ((s[k]).toNat ≤ 90)) := by rw [decide_eq_decide]; omega
          have d122 : decide (((s[k]).toNat : Int) ≤ 122) = (decide ((s[k]).toNat ≤ 122)) := by rw [decide_eq_decide]; omega
          first | rw [decide_eq_true (show (s[k]).toNat ≤ 90 by omega)] at d90 | rw [decide_eq_false (show ¬ (s[k]).toNat ≤ 90 by omega)] at d90
          first | rw [decide_eq_true (show (s[k]).toNat ≤ 122 by omega)] at d122 | rw [decide_eq_false (show ¬ (s[k]).toNat ≤ 122 by omega)] at d122
          go_wp2_with fail
          exact ⟨⟨k + 1, by omega, by go_num, Lib.hid (HS.out.trans HN.out)⟩, by simp [intOf]; omega⟩
        · have HB := Lib.hid (HOK.out (by unfold okc; generalize (s[k]).toNat = cc at *; rw [HK0.out]; simp; omega))
          have d90 : decide (((s[k]).toNat : Int) ≤ 90) = (decide ((s[k]).toNat ≤ 90)) := by rw [decide_eq_decide]; omega
          have d122 : decide (((s[k]).toNat : Int) ≤ 122) = (decide ((s[k]).toNat ≤ 122)) := by rw [decide_eq_decide]; omega
          first | rw [decide_eq_true (show (s[k]).toNat ≤ 90 by omega)] at d90 | rw [decide_eq_false (show ¬ (s[k]).toNat ≤ 90 by omega)] at d90
          first | rw [decide_eq_true (show (s[k]).toNat ≤ 122 by omega)] at d122 | rw [decide_eq_false (show ¬ (s[k]).toNat ≤ 122 by omega)] at d122
          go_wp2_with fail
          go_ret
          exact ⟨by rw [HB.out]; rfl, rfl⟩
        · have HN := Lib.hid (show okc k (s[k]).toNat = true by unfold okc; generalize (s[k]).toNat = cc at *; rw [HK0.out]; simp; omega)
          have d90 : decide (((s[k]).toNat : Int) ≤ 90) = (decide ((s[k]).toNat ≤ 90)) := by rw [decide_eq_decide]; omega
          have d122 : decide (((s[k]).toNat : Int) ≤ 122) = (decide ((s[k]).toNat ≤ 122)) := by rw [decide_eq_decide]; omega
          first | rw [decide_eq_true (show (s[k]).toNat ≤ 90 by omega)] at d90 | rw [decide_eq_false (show ¬ (s[k]).toNat ≤ 90 by omega)] at d90
          first | rw [decide_eq_true (show (s[k]).toNat ≤ 122 by omega)] at d122 | rw [decide_eq_false (show ¬ (s[k]).toNat ≤ 122 by omega)] at d122
          go_wp2_with fail
          exact ⟨⟨k + 1, by omega, by go_num, Lib.hid (HS.out.trans HN.out)⟩, by simp [intOf]; omega⟩
        · have HB := Lib.hid (HOK.out (by unfold okc; generalize (s[k]).toNat = cc at *; rw [HK0.out]; simp; omega))
          have d90 : decide (((s[k]).toNat : Int) ≤ 90) = (decide ((s[k]).toNat ≤ 90)) := by rw [decide_eq_decide]; omega
          have d122 : decide (((s[k]).toNat : Int) ≤ 122) = (decide ((s[k]).toNat ≤ 122)) := by rw [decide_eq_decide]; omega
          first | rw [decide_eq_true (show (s[k]).toNat ≤ 90 by omega)] at d90 | rw [decide_eq_false (show ¬ (s[k]).toNat ≤ 90 by omega)] at d90
          first | rw [decide_eq_true (show (s[k]).toNat ≤ 122 by omega)] at d122 | rw [decide_eq_false (show ¬ (s[k]).toNat ≤ 122 by omega)] at d122
          go_wp2_with fail
          go_ret
          exact ⟨by rw [HB.out]; rfl, rfl⟩
      · have b0 : ((k : Int) == 0) = false := by rw [beq_eq_false_iff_ne]; omega
        rcases (show (s[k]).toNat < 48 ∨ (48 ≤ (s[k]).toNat ∧ (s[k]).toNat ≤ 57) ∨ (58 ≤ (s[k]).toNat ∧ (s[k]).toNat ≤ 64) ∨ (65 ≤ (s[k]).toNat ∧ (s[k]).toNat ≤ 90) ∨ (91 ≤ (s[k]).toNat ∧ (s[k]).toNat ≤ 94) ∨ (s[k]).toNat = 95 ∨ (s[k]).toNat = 96 ∨ (97 ≤ (s[k]).toNat ∧ (s[k]).toNat ≤ 122) ∨ 123 ≤ (s[k]).toNat by omega) with h | ⟨h, h'⟩ | ⟨h, h'⟩ | ⟨h, h'⟩ | ⟨h, h'⟩ | h | h | ⟨h, h'⟩ | h
        · have HB := Lib.hid (HOK.out (by unfold okc; simp; omega))
          have d90 : decide (((s[k]).toNat : Int) ≤ 90) = (decide ((s[k]).toNat ≤ 90)) := by rw [decide_eq_decide]; omega
          have d122 : decide (((s[k]).toNat : Int) ≤ 122) = (decide ((s[k]).toNat ≤ 122)) := by rw [decide_eq_decide]; omega
          first | rw [decide_eq_true (show (s[k]).toNat ≤ 90 by omega)] at d90 | rw [decide_eq_false (show ¬ (s[k]).toNat ≤ 90 by omega)] at d90
          first | rw [decide_eq_true (show (s[k]).toNat ≤ 122 by omega)] at d122 | rw [decide_eq_false (show ¬ (s[k]).toNat ≤ 122 by omega)] at d122
          have b1 : (((s[k]).toNat : Int) != 95) = true := by rw [bne_iff_ne]; omega
          go_wp2_with fail
          go_ret
          exact ⟨by rw [HB.out]; rfl, rfl⟩
        · have HN := Lib.hid (show okc k (s[k]).toNat = true by unfold okc; simp; omega)
          have d90 : decide (((s[k]).toNat : Int) ≤ 90) = (decide ((s[k]).toNat ≤ 90)) := by rw [decide_eq_decide]; omega
          have d122 : decide (((s[k]).toNat : Int) ≤ 122) = (decide ((s[k]).toNat ≤ 122)) := by rw [decide_eq_decide]; omega
          first | rw [decide_eq_true (show (s[k]).toNat ≤ 90 by omega)] at d90 | rw [decide_eq_false (show ¬ (s[k]).toNat ≤ 90 by omega)] at d90
          first | rw [decide_eq_true (show (s[k]).toNat ≤ 122 by omega)] at d122 | rw [decide_eq_false (show ¬ (s[k]).toNat ≤ 122 by omega)] at d122
          have b1 : (((s[k]).toNat : Int) != 95) = true := by rw [bne_iff_ne]; omega
          go_wp2_with fail
          exact ⟨⟨k + 1, by omega, by go_num, Lib.hid (HS.out.trans HN.out)⟩, by simp [intOf]; omega⟩
        · have HB := Lib.hid (HOK.out (by unfold okc; simp; omega))
          have d90 : decide (((s[k]).toNat : Int) ≤ 90) = (decide ((s[k]).toNat ≤ 90)) := by rw [decide_eq_decide]; omega
          have d122 : decide (((s[k]).toNat : Int) ≤ 122) = (decide ((s[k]).toNat ≤ 122)) := by rw [decide_eq_decide]; omega
          first | rw [decide_eq_true (show (s[k]).toNat ≤ 90 by omega)] at d90 | rw [decide_eq_false (show ¬ (s[k]).toNat ≤ 90 by omega)] at d90
          first | rw [decide_eq_true (show (s[k]).toNat ≤ 122 by omega)] at d122 | rw [decide_eq_false (show ¬ (s[k]).toNat ≤ 122 by omega)] at d122
          have b1 : (((s[k]).toNat : Int) != 95) = true := by rw [bne_iff_ne]; omega
          go_wp2_with fail
          go_ret
          exact ⟨by rw [HB.out]; rfl, rfl⟩
        · have HN := Lib.hid (show okc k (s[k]).toNat = true by unfold okc; simp; omega)
          have d90 : decide (((s[k]).toNat : Int) ≤ 90) = (decide ((s[k]).toNat ≤ 90)) := by rw [decide_eq_decide]; omega
          have d122 : decide (((s[k]).toNat : Int) ≤ 122) = (decide ((s[k]).toNat ≤ 122)) := by rw [decide_eq_decide]; omega
          first | rw [decide_eq_true (show (s[k]).toNat ≤ 90 by omega)] at d90 | rw [decide_eq_false (show ¬ (s[k]).toNat ≤ 90 by omega)] at d90
          first | rw [decide_eq_true (show (s[k]).toNat ≤ 122 by omega)] at d122 | rw [decide_eq_false (show ¬ (s[k]).toNat ≤ 122 by omega)] at d122
          go_wp2_with fail
          exact ⟨⟨k + 1, by omega, by go_num, Lib.hid (HS.out.trans HN.out)⟩, by simp [intOf]; omega⟩
        · have HB := Lib.hid (HOK.out (by unfold okc; simp; omega))
          have d90 : decide (((s[k]).toNat : Int) ≤ 90) = (decide ((s[k]).toNat ≤ 90)) := by rw [decide_eq_decide]; omega
          have d122 : decide (((s[k]).toNat : Int) ≤ 122) = (decide ((s[k]).toNat ≤ 122)) := by rw [decide_eq_decide]; omega
          first | rw [decide_eq_true (show (s[k]).toNat ≤ 90 by omega)] at d90 | rw [decide_eq_false (show ¬ (s[k]).toNat ≤ 90 by omega)] at d90
          first | rw [decide_eq_true (show (s[k]).toNat ≤ 122 by omega)] at d122 | rw [decide_eq_false (show ¬ (s[k]).toNat ≤ 122 by omega)] at d122
          have b1 : (((s[k]).toNat : Int) != 95) = true := by rw [bne_iff_ne]; omega
          go_wp2_with fail
          go_ret
          exact ⟨by rw [HB.out]; rfl, rfl⟩
        · have HN := Lib.hid (show okc k (s[k]).toNat = true by unfold okc; simp; omega)
          have d90 : decide (((s[k]).toNat : Int) ≤ 90) = (decide ((s[k]).toNat ≤ 90)) := by rw [decide_eq_decide]; omega
          have d122 : decide (((s[k]).toNat : Int) ≤ 122) = (decide ((s[k]).toNat ≤ 122)) := by rw [decide_eq_decide]; omega
          first | rw [decide_eq_true (show (s[k]).toNat ≤ 90 by omega)] at d90 | rw [decide_eq_false (show ¬ (s[k]).toNat ≤ 90 by omega)] at d90
          first | rw [decide_eq_true (show (s[k]).toNat ≤ 122 by omega)] at d122 | rw [decide_eq_false (show ¬ (s[k]).toNat ≤ 122 by omega)] at d122
          have b1 : (((s[k]).toNat : Int) != 95) = false := by rw [h]; rfl
          have h1 : 95 ≤ (s[k]).toNat := by omega
          have h2 : (s[k]).toNat ≤ 95 := by omega
          clear h
          go_wp2_with fail
          exact ⟨⟨k + 1, by omega, by go_num, Lib.hid (HS.out.trans HN.out)⟩, by simp [intOf]; omega⟩
        · have HB := Lib.hid (HOK.out (by unfold okc; simp; omega))
          have d90 : decide (((s[k]).toNat : Int) ≤ 90) = (decide ((s[k]).toNat ≤ 90)) := by rw [decide_eq_decide]; omega
          have d122 : decide (((s[k]).toNat : Int) ≤ 122) = (decide ((s[k]).toNat ≤ 122)) := by rw [decide_eq_decide]; omega
          first | rw [decide_eq_true (show (s[k]).toNat ≤ 90 by omega)] at d90 | rw [decide_eq_false (show ¬ (s[k]).toNat ≤ 90 by omega)] at d90
          first | rw [decide_eq_true (show (s[k]).toNat ≤ 122 by omega)] at d122 | rw [decide_eq_false (show ¬ (s[k]).toNat ≤ 122 by omega)] at d122
          have b1 : (((s[k]).toNat : Int) != 95) = true := by rw [bne_iff_ne]; omega
          have h1 : 96 ≤ (s[k]).toNat := by omega
          have h2 : (s[k]).toNat ≤ 96 := by omega
          clear h
          go_wp2_with fail
          go_ret
          exact ⟨by rw [HB.out]; rfl, rfl⟩
        · have HN := Lib.hid (show okc k (s[k]).toNat = true by unfold okc; simp; omega)
          have d90 : decide (((s[k]).toNat : Int) ≤ 90) = (decide ((s[k]).toNat ≤ 90)) := by rw [decide_eq_decide]; omega
          have d122 : decide (((s[k]).toNat : Int) ≤ 122) = (decide ((s[k]).toNat ≤ 122)) := by rw [decide_eq_decide]; omega
          first | rw [decide_eq_true (show (s[k]).toNat ≤ 90 by omega)] at d90 | rw [decide_eq_false (show ¬ (s[k]).toNat ≤ 90 by omega)] at d90
          first | rw [decide_eq_true (show (s[k]).toNat ≤ 122 by omega)] at d122 | rw [decide_eq_false (show ¬ (s[k]).toNat ≤ 122 by omega)] at d122
          go_wp2_with fail
          exact ⟨⟨k + 1, by omega, by go_num, Lib.hid (HS.out.trans HN.out)⟩, by simp [intOf]; omega⟩
        · have HB := Lib.hid (HOK.out (by unfold okc; simp; omega))
          have d90 : decide (((s[k]).toNat : Int) ≤ 90) = (decide ((s[k]).toNat ≤ 90)) := by rw [decide_eq_decide]; omega
          have d122 : decide (((s[k]).toNat : Int) ≤ 122) = (decide ((s[k]).toNat ≤ 122)) := by rw [decide_eq_decide]; omega
          first | rw [decide_eq_true (show (s[k]).toNat ≤ 90 by omega)] at d90 | rw [decide_eq_false (show ¬ (s[k]).toNat ≤ 90 by omega)] at d90
          first | rw [decide_eq_true (show (s[k]).toNat ≤ 122 by omega)] at d122 | rw [decide_eq_false (show ¬ (s[k]).toNat ≤ 122 by omega)] at d122
          have b1 : (((s[k]).toNat : Int) != 95) = true := by rw [bne_iff_ne]; omega
          go_wp2_with fail
          go_ret
          exact ⟨by rw [HB.out]; rfl, rfl⟩
    · obtain rfl : k = s.size := by omega
      have HB := Lib.hid (HA.out HK.out)
      clear HT HF HA HK
      by_cases h0 : s.size = 0
      · have hB : Hid (B = false) := Lib.hid (by rw [HB.out]; simp; omega)
        have e1 : s.toList = [] := HE.out.2 h0
        have e2 : s.toList.isEmpty = true := by rw [e1]; rfl
        go_wp2_with fail
        go_ret
        exact ⟨by rw [hB.out]; rfl, rfl⟩
      · have hB : Hid (B = decide ((s.size : Int) ≤ 24)) := Lib.hid (by rw [HB.out, decide_eq_decide]; omega)
        have e1 : ¬ s.toList = [] := fun e => h0 (HE.out.1 e)
        have e2 : s.toList.isEmpty = false := by rw [List.isEmpty_eq_false_iff]; exact e1
        go_wp2_with fail
        go_ret
        exact ⟨by rw [hB.out]; rfl, rfl⟩
theorem name_at {s : ByteArray} {b : Bool} (h : nmB s = b) (w : World) (hs : s.size ≤ 1000) : Calls Tryd.prog 27 #[.string s] w fun e w' => e = .returned (.bool b) ∧ w = w' := by
  rw [← h]; exact name_any s w hs

/-- an order -/
structure Ord where
  id : ByteArray
  pn : ByteArray
  fr : ByteArray
  to : ByteArray
  pf : Int
  pu : Int
  deriving DecidableEq
/-- its cells -/
abbrev encO (o : Ord) : Array Value := #[.string o.id, .string o.pn, .string o.fr, .string o.to, .int .i64 o.pf, .int .i64 o.pu]
/-- a text that is greater -/
def sgt (x y : ByteArray) : Bool := !Op.bytesLess x.toList y.toList && !(x.toList == y.toList)
/-- an order that is newer -/
def nwB (a b : Ord) : Bool := if a.pf = b.pf then sgt a.id b.id else decide (b.pf < a.pf)
set_option maxHeartbeats 1000000 in
theorem newer_any (a b : Ord) (w : World) : Calls Tryd.prog 28 #[.agg (encO a), .agg (encO b)] w fun e w' => e = .returned (.bool (nwB a b)) ∧ Gr w w' := by
  by_cases h : a.pf = b.pf
  · have b0 : (a.pf != b.pf) = false := by rw [h]; simp
    have HN := Lib.hid (show nwB a b = (!Op.bytesLess a.id.toList b.id.toList && !(a.id.toList == b.id.toList)) from if_pos h)
    clear h
    go_enter Tryd.func28, Tryd.ntmps28
    go_wp2_with fail
    go_ret
    exact ⟨by rw [HN.out]; rfl, (Gr.one _ _).alloc _⟩
  · have b0 : (a.pf != b.pf) = true := by rw [bne_iff_ne]; exact h
    have HN := Lib.hid (show nwB a b = decide (b.pf < a.pf) from if_neg h)
    clear h
    go_enter Tryd.func28, Tryd.ntmps28
    go_wp2_with fail
    go_ret
    exact ⟨by rw [HN.out]; rfl, (Gr.one _ _).alloc _⟩
end Go.Proofs.YtngbkdnkpolbfaaDoor
