/- Plain facts on the reference's sort. No program in sight. Under no condition. -/
import Derived.Test.YtjebbmnjegndkaaDoorUnB
namespace Go.Proofs.YtjebbmnjegndkaaDoor

/-- sorted by From -/
def Srt (r : List (Int × Int)) : Prop := r.Pairwise fun a b => a.1 ≤ b.1
theorem ins_ok (r : List (Int × Int)) (p : Int × Int) (k : Nat) (hs : Srt r) (hk : k ≤ r.length) (h1 : ∀ j (h : j < r.length), j < k → r[j].1 ≤ p.1) (h2 : ∀ h : k < r.length, p.1 < r[k].1) :
    Srt (r.take k ++ [p] ++ r.drop k) ∧ (r.take k ++ [p] ++ r.drop k).Perm (p :: r) := by
  constructor
  · unfold Srt at *
    rw [List.append_assoc, List.pairwise_append]
    have hcut : (r.take k ++ r.drop k).Pairwise fun a b => a.1 ≤ b.1 := by rw [List.take_append_drop]; exact hs
    rw [List.pairwise_append] at hcut
    refine ⟨hcut.1, ?_, ?_⟩
    · rw [List.singleton_append, List.pairwise_cons]
      refine ⟨fun b hb => ?_, hcut.2.1⟩
      obtain ⟨j, hj, rfl⟩ := List.getElem_of_mem hb
      rw [List.length_drop] at hj
      have hkl : k < r.length := by omega
      rw [List.getElem_drop]
      have h3 := h2 hkl
      have h4 : r[k].1 ≤ r[k + j].1 := by
        rcases Nat.eq_zero_or_pos j with z | z
        · subst z; simp
        · exact List.pairwise_iff_getElem.1 hs k (k + j) hkl (by omega) (by omega)
      omega
    · intro a ha b hb
      rw [List.singleton_append, List.mem_cons] at hb
      rcases hb with rfl | hb
      · obtain ⟨j, hj, rfl⟩ := List.getElem_of_mem ha
        rw [List.length_take] at hj
        rw [List.getElem_take]
        exact h1 j (by omega) (by omega)
      · exact hcut.2.2 a ha b hb
  · rw [List.append_assoc, List.singleton_append]
    refine List.perm_middle.trans ?_
    rw [List.take_append_drop]
theorem sh_step (r : List (Int × Int)) (j : Nat) (h : j < r.length) : (r.take (j + 1) ++ [r[j]]) ++ r.drop (j + 1) = r.take j ++ [r[j]] ++ r.drop j := by
  rw [List.take_succ_eq_append_getElem h, List.drop_eq_getElem_cons h]
  simp
end Go.Proofs.YtjebbmnjegndkaaDoor
