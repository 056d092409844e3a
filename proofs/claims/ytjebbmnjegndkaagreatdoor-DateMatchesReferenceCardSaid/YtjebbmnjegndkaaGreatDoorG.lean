/- The contract of Union. Under no condition. -/
import Derived.Test.YtjebbmnjegndkaaGreatDoorF
namespace Go.Proofs.YtjebbmnjegndkaaGreatDoor
open Go.RowKit Go.Shelf
open Go.Sort (HoldsK flatK size_flatK get_flatK)

theorem take_succ' (s : List (Int × Int)) (k : Nat) (h : k < s.length) : s.take (k + 1) = s.take k ++ [s[k]] := by
  rw [List.take_succ_eq_append_getElem h]
theorem fold_succ (s : List (Int × Int)) (k : Nat) (h : k < s.length) : (s.take (k + 1)).foldl rst [] = rst ((s.take k).foldl rst []) s[k] := by
  rw [take_succ' s k h, List.foldl_append]; rfl

/-- the sorted copy: a row of periods at block b -/
def SRow (w : World) (b : Nat) (s : List (Int × Int)) : Prop := b < w.heap.size ∧ ∀ j (h : j < s.length), w.cell? ⟨b, j * 2, none⟩ = some (.int .i64 s[j].1) ∧ w.cell? ⟨b, j * 2 + 1, none⟩ = some (.int .i64 s[j].2)

theorem getElem!_BP (d : Array BP) (i : Nat) (h : i < d.size) : d[i]! = d[i] := getElem!_pos d i h

set_option maxHeartbeats 1000000 in
theorem sort_any (B g cap : Nat) (l : List (Int × Int)) (w : World) (h1 : l.length ≤ 1000) (hp : ∀ p ∈ l, prp p = true) (hB : B ≤ w.heap.size)
    (hown : w.ownsRow B 38 2 (.slice (some ⟨g, 0, none⟩) l.length cap) l.length (flat l)) :
    Calls Tryz.prog 35 #[.slice (some ⟨g, 0, none⟩) l.length cap, .func (.func 36) #[] #[]] w fun e w' => e = .returned (.tuple #[]) ∧ ∃ s : List (Int × Int), s.Perm l ∧ s.Pairwise (fun a b => a.1 ≤ b.1) ∧ SRow w' g s ∧ Below B w w' := by
  obtain ⟨hBg, hg⟩ := hown.lt g rfl
  let d : Array BP := (l.attach.map fun x => (⟨x.1, by have := (prp_iff _).1 (hp x.1 x.2); omega⟩ : BP)).toArray
  have hdl : d.toList.map (·.1) = l := by
    show (l.attach.map fun x => (⟨x.1, _⟩ : BP)).map (·.1) = l
    rw [List.map_map]
    exact List.attach_map_subtype_val l
  have hds : d.size = l.length := by simp [d]
  have hdi : ∀ i (h : i < l.length), (d[i]!).1 = l[i] := fun i h => by
    rw [getElem!_BP d i (by omega)]
    simp [d]
  have hH : HoldsK encB 2 w g 0 d := fun j hj => by
    rw [size_flatK] at hj
    rw [get_flatK _ _ _ _ hj, Nat.zero_add]
    refine ⟨?_, hown.frozenAt j⟩
    rw [hown.cellAt j (by omega)]
    obtain ⟨f0, f1⟩ := flat_at l (j / 2) (by omega)
    have hd := hdi (j / 2) (by omega)
    rcases Nat.mod_two_eq_zero_or_one j with hm | hm
    · have hj2 : j = j / 2 * 2 := by omega
      rw [hm]
      conv => lhs; rw [hj2]
      rw [f0, ← hd]; rfl
    · have hj2 : j = j / 2 * 2 + 1 := by omega
      rw [hm]
      conv => lhs; rw [hj2]
      rw [f1, ← hd]; rfl
  have eg : ∀ args w, (callFunc 36 args).run Tryz.prog w = .ok (.enter 36 args) w := enters_of Tryz.func36 (by kernel_rfl) rfl
  have hcon := AnyQ.slices_SortFunc Tryz.sortP 2 Tryz.isAgg38 Tryz.sizeOf38 encB (fun _ => rfl) (fun x v hv => by simp [encB, enc2] at hv; rcases hv with rfl | rfl <;> rfl) (fun x y => x.1.1 - y.1.1) swoB 36 #[] g 0 cap d w eg (cmpLays g 0 d.size w) hH hg (by omega)
  change Calls Tryz.prog 35 _ _ _ at hcon
  rw [hds] at hcon
  refine hcon.mono ?_
  rintro e w' ⟨rfl, d', n, os, hperm, hsort, rfl⟩
  have hd's : d'.size = l.length := hperm.1.trans hds
  refine ⟨rfl, d'.toList.map (·.1), ?_, ?_, ?_, below_sort _ _ _ _ _ _ _ _ B hBg hB⟩
  · have h := hperm.2.2
    rw [Array.extract_eq_self_of_le (by omega), Array.extract_eq_self_of_le (by omega)] at h
    have := h.map (·.1)
    rwa [hdl] at this
  · rw [List.pairwise_map, List.pairwise_iff_getElem]
    intro i j hi hj hij
    have hj' : j < d'.size := by simpa using hj
    have := hsort i j (Nat.zero_le _) hij (by omega)
    rw [getElem!_BP d' j hj', getElem!_BP d' i (by omega)] at this
    simp [ltOf] at this
    simpa using (by omega : d'[i].1.1 ≤ d'[j].1.1)
  · have hH' := SWK.holds (W := sortWorldK encB 2 w g 0 n d' os) ⟨n, os, rfl⟩ hg hH (by omega)
    refine ⟨Nat.lt_of_lt_of_le hg (SWK.le (enc := encB) (k := 2) (blk := g) (off := 0) (dk := d') ⟨n, os, rfl⟩), fun j hj => ?_⟩
    have hj' : j < d'.size := by simpa using hj
    have c0 := (Sort.HoldsK.cell hH' (i := j) (c := 0) hj' (by omega)).1
    have c1 := (Sort.HoldsK.cell hH' (i := j) (c := 1) hj' (by omega)).1
    rw [getElem!_BP d' j hj'] at c0 c1
    rw [Nat.zero_add] at c0 c1
    refine ⟨?_, ?_⟩
    · rw [Nat.add_zero] at c0; rw [c0]; simp [encB, enc2]
    · rw [c1]; simp [encB, enc2]

end Go.Proofs.YtjebbmnjegndkaaGreatDoor
