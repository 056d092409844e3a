/- The contracts of ContainsFunc where Append calls it, and of Append's closures. Under the condition that the tables lie in memory as the program lays them. -/
import Derived.Test.YtihoomlaggihlaaGreatDoorKH
import Derived.Deep.RegionHeld3
import Derived.Deep.RegionWith
namespace Go.Proofs.YtihoomlaggihlaaGreatDoor
open Go.RowKit

/-- whether a record is too long -/
def longB (xs : List (List UInt8)) : Bool := xs.any fun r => decide (20000 < r.length)
theorem longB_ok {xs : List (List UInt8)} (h : longB xs = false) : okR xs := fun r hr => by
  unfold longB at h
  rw [List.any_eq_false] at h
  have := h r hr
  simp at this
  omega
set_option maxHeartbeats 4000000 in
set_option maxRecDepth 100000 in
theorem long_one (w : World) (t : List UInt8) (ht : t.length ≤ 10000000) : Calls Tryz.prog 45 #[.string ⟨t.toArray⟩] w fun e w' => e = .returned (.bool (decide (20000 < t.length))) ∧ w = w' := by
  have hsz : (⟨t.toArray⟩ : ByteArray).size = t.length := by simp [ByteArray.size]
  by_cases h : 20000 < t.length
  · have h' : (20000 : Int) < (t.length : Int) := by omega
    have hd : decide (20000 < t.length) = true := by simpa using h
    rw [hd]
    clear hd
    go_enter Tryz.func45, Tryz.ntmps45
    go_wp2_with fail
    go_ret
    exact ⟨rfl, rfl⟩
  · have h' : (t.length : Int) ≤ 20000 := by omega
    have hd : decide (20000 < t.length) = false := by simpa using h
    have hdi : decide ((20000 : Int) < (t.length : Int)) = false := by
      apply decide_eq_false
      omega
    rw [hd]
    have HD := Lib.hid hdi
    clear hd hdi
    go_enter Tryz.func45, Tryz.ntmps45
    go_wp2_with fail
    go_ret
    refine ⟨?_, rfl⟩
    rw [← HD.out]
    rfl
theorem longB_some {xs : List (List UInt8)} {k : Nat} (hk : k < xs.length) (h : 20000 < xs[k].length) : longB xs = true := by
  unfold longB
  rw [List.any_eq_true]
  exact ⟨_, List.getElem_mem hk, by simpa using h⟩
theorem longB_none {xs : List (List UInt8)} (h : ∀ k (hk : k < xs.length), ¬ 20000 < xs[k].length) : longB xs = false := by
  unfold longB
  rw [List.any_eq_false]
  intro r hr
  obtain ⟨k, hk, rfl⟩ := List.getElem_of_mem hr
  simpa using h k hk
set_option maxHeartbeats 4000000 in
set_option maxRecDepth 100000 in
theorem long_index (w : World) (F : Nat → Prop) (v : Value) (xs : List (List UInt8)) (hv : SR w F v xs) (hm : xs.length ≤ 1000000) (hl : ∀ t ∈ xs, t.length ≤ 10000000) :
    Calls Tryz.prog 79 #[v, .func (.func 45) #[] #[]] w fun e w' => ∃ r : Int, e = .returned (.int .i64 r) ∧ w = w' ∧ ((longB xs = true ∧ 0 ≤ r) ∨ (longB xs = false ∧ r = -1)) := by
  obtain ⟨a, c, rfl, hcc, hcs⟩ := hv
  have HV : Hid (SR w F (.slice a xs.length c) xs) := Lib.hid ⟨a, c, rfl, hcc, hcs⟩
  have HL := Lib.hid hl
  clear hcs hl
  go_enter Tryz.func79, Tryz.ntmps79
  go_wp2_with fail
  obtain ⟨wo, rfl⟩ : ∃ wo : World, wo = w := ⟨_, rfl⟩
  go_loopw [5, 8] (fun _ i wr => ∃ (k : Nat), k ≤ xs.length ∧ i = .int .i64 k ∧ wr = wo ∧ Hid (∀ j (hj : j < xs.length), j < k → ¬ 20000 < xs[j].length)) (fun _ i _ => xs.length - (intOf i).toNat)
  case atStart => exact ⟨0, by omega, rfl, rfl, Lib.hid fun j _ h => absurd h (Nat.not_lt_zero _)⟩
  case round =>
    obtain ⟨k, hk, rfl, rfl, M⟩ := hrel
    have hk0 : (0 : Int) ≤ (k : Int) := Int.natCast_nonneg _
    by_cases hlt : k < xs.length
    · obtain ⟨a', c', e1, _, hcs⟩ := HV.out
      cases e1
      obtain ⟨b, o, rfl, _, hcell⟩ := hcs k hlt
      have hk1 : (k : Int) < (xs.length : Int) := by omega
      have HO := Lib.hid (long_one wr xs[k] (HL.out _ (List.getElem_mem hlt)))
      clear hcs
      by_cases hk2 : 20000 < xs[k].length
      · have hd : decide (20000 < xs[k].length) = true := by simpa using hk2
        rw [hd] at HO
        have HS := Lib.hid (longB_some hlt hk2)
        clear hd hk2
        go_wp2_with fail
        refine HO.out.mono ?_
        rintro e w2 ⟨rfl, rfl⟩
        go_wp2_with fail
        go_ret
        exact ⟨_, rfl, rfl, Or.inl ⟨HS.out, hk0⟩⟩
      · have hd : decide (20000 < xs[k].length) = false := by simpa using hk2
        rw [hd] at HO
        have M2 : Hid (∀ j (hj : j < xs.length), j < k + 1 → ¬ 20000 < xs[j].length) := Lib.hid fun j hj h => by
          rcases Nat.lt_or_ge j k with e | e
          · exact M.out j hj e
          · obtain rfl : j = k := by omega
            exact hk2
        clear hd hk2
        go_wp2_with fail
        refine HO.out.mono ?_
        rintro e w2 ⟨rfl, rfl⟩
        go_wp2_with fail
        go_roundw
        case rel => exact ⟨k + 1, by omega, by go_num, trivial, M2⟩
        case measure => simp [intOf]; omega
    · obtain rfl : k = xs.length := by omega
      have HS := Lib.hid (longB_none fun j hj => M.out j hj hj)
      go_wp2_with fail
      go_ret
      exact ⟨_, rfl, rfl, Or.inr ⟨HS.out, rfl⟩⟩
set_option maxHeartbeats 4000000 in
set_option maxRecDepth 100000 in
theorem long_any (w : World) (F : Nat → Prop) (v : Value) (xs : List (List UInt8)) (hv : SR w F v xs) (hm : xs.length ≤ 1000000) (hl : ∀ t ∈ xs, t.length ≤ 10000000) :
    Calls Tryz.prog 44 #[v, .func (.func 45) #[] #[]] w fun e w' => e = .returned (.bool (longB xs)) ∧ w = w' := by
  have HI := Lib.hid (long_index w F v xs hv hm hl)
  clear hv hm hl
  go_enter Tryz.func44, Tryz.ntmps44
  go_wp2_with fail
  refine HI.out.mono ?_
  rintro e w2 ⟨r, rfl, rfl, h | h⟩
  · obtain ⟨h1, h2⟩ := h
    have H1 := Lib.hid h1
    clear h1
    go_wp2_with fail
    go_ret
    exact ⟨by rw [H1.out]; rfl, rfl⟩
  · obtain ⟨h1, rfl⟩ := h
    have H1 := Lib.hid h1
    clear h1
    go_wp2_with fail
    go_ret
    exact ⟨by rw [H1.out]; rfl, rfl⟩
end Go.Proofs.YtihoomlaggihlaaGreatDoor
