/- The contract of the reference's Long. Under no condition but sizes. -/
import Derived.Test.YtihoomlaggihlaaGreatDoorRA
import Derived.Test.YtihoomlaggihlaaGreatDoorKK
namespace Go.Proofs.YtihoomlaggihlaaGreatDoor
open Go.RowKit

set_option maxHeartbeats 2000000 in
set_option maxRecDepth 100000 in
theorem rlong_any (w : World) (v : Value) (xs : List (List UInt8)) (h : SR w (fun _ => False) v xs) (hm : xs.length ≤ 1000000) (hl : ∀ t ∈ xs, t.length ≤ 10000000) :
    Calls Tryz.prog 12 #[v] w fun e w' => e = .returned (.bool (longB xs)) ∧ w = w' := by
  obtain ⟨a, c, rfl, hc, hcs⟩ := h
  have HCS := Lib.hid hcs
  have HL := Lib.hid (fun k (hk : k < xs.length) => hl xs[k] (List.getElem_mem hk))
  have HY := Lib.hid (fun k (hk : k < xs.length) => longB_some (xs := xs) hk)
  have HN := Lib.hid (longB_none (xs := xs))
  clear hcs hl
  generalize longB xs = b at *
  go_enter Tryz.func12, Tryz.ntmps12
  go_wp2_with fail
  go_loop [3] (fun i => ∃ k : Nat, k ≤ xs.length ∧ i = .int .i64 k ∧ Hid (∀ j (hj : j < xs.length), j < k → ¬ 20000 < xs[j].length)) (fun i => xs.length - (intOf i).toNat)
  case atStart => exact ⟨0, by omega, rfl, Lib.hid fun j _ h => absurd h (Nat.not_lt_zero _)⟩
  case round =>
    obtain ⟨k, hk, rfl, M⟩ := hrel
    have hk0 : (0 : Int) ≤ (k : Int) := Int.natCast_nonneg _
    by_cases hlt : k < xs.length
    · obtain ⟨bk, o, rfl, _, hcell⟩ := HCS.out k hlt
      have hk1 : (k : Int) < (xs.length : Int) := by omega
      have hsz : (⟨xs[k].toArray⟩ : ByteArray).size = xs[k].length := by simp [ByteArray.size]
      have hx := HL.out k hlt
      by_cases hb : 20000 < xs[k].length
      · have HB := Lib.hid (HY.out k hlt hb)
        have hbi : (20000 : Int) < (xs[k].length : Int) := by omega
        go_wp2_with fail
        go_ret
        exact ⟨by rw [HB.out]; rfl, rfl⟩
      · have M2 : Hid (∀ j (hj : j < xs.length), j < k + 1 → ¬ 20000 < xs[j].length) := Lib.hid fun j hj h => by
          rcases Nat.lt_or_ge j k with e | e
          · exact M.out j hj e
          · obtain rfl : j = k := by omega
            exact hb
        have hbi : (xs[k].length : Int) ≤ 20000 := by omega
        clear hb
        go_wp2_with fail
        go_round
        case rel => exact ⟨k + 1, by omega, by go_num, M2⟩
        case measure => simp [intOf]; omega
    · obtain rfl : k = xs.length := by omega
      have HB := Lib.hid (HN.out fun j hj => M.out j hj hj)
      go_wp2_with fail
      go_ret
      exact ⟨by rw [HB.out]; rfl, rfl⟩
end Go.Proofs.YtihoomlaggihlaaGreatDoor
