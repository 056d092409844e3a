/- The contracts of the reference's value and Parse. Under no condition. -/
import Derived.Test.YtjebbmnjegndkaaGreatDoorRe
namespace Go.Proofs.YtjebbmnjegndkaaGreatDoor
open Go.RowKit
/-- a digit -/
def isD (c : UInt8) : Bool := decide (48 ≤ c.toNat ∧ c.toNat ≤ 57)
/-- the number of a text of digits -/
def vl (l : List UInt8) : Int := l.foldl (fun a c => 10 * a + ((c.toNat : Int) - 48)) 0
/-- what value returns -/
def valL (l : List UInt8) : Int := if l.all isD then vl l else -1
theorem vl_bd : ∀ (l : List UInt8), l.all isD = true → l.length ≤ 4 → 0 ≤ vl l ∧ vl l ≤ 9999 := by
  intro l h hl
  match l, hl with
  | [], _ => decide
  | [a], _ => simp [isD] at h; simp [vl]; omega
  | [a, b], _ => simp [isD] at h; simp [vl]; omega
  | [a, b, c], _ => simp [isD] at h; simp [vl]; omega
  | [a, b, c, d], _ => simp [isD] at h; simp [vl]; omega
theorem vl_snoc (l : List UInt8) (c : UInt8) : vl (l ++ [c]) = 10 * vl l + ((c.toNat : Int) - 48) := by simp [vl]
theorem take_next (s : ByteArray) (k : Nat) (h : k < s.size) : s.data.toList.take (k + 1) = s.data.toList.take k ++ [s[k]] := by
  have hl : k < s.data.toList.length := by simpa using h
  rw [List.take_add_one, List.getElem?_eq_getElem hl]
  rfl
theorem not_dig (s : ByteArray) (k : Nat) (h : k < s.size) (hd : isD s[k] = false) : valL s.data.toList = -1 := by
  unfold valL
  rw [if_neg]
  intro ha
  have hl : k < s.data.toList.length := by simpa using h
  have := List.all_eq_true.1 ha s.data.toList[k] (List.getElem_mem hl)
  have e : s.data.toList[k] = s[k] := rfl
  rw [e, hd] at this
  cases this
theorem one_more (s : ByteArray) (k : Nat) (v : Int) (h : k < s.size) (hd : isD s[k] = true) (H : (s.data.toList.take k).all isD = true ∧ vl (s.data.toList.take k) = v) :
    (s.data.toList.take (k + 1)).all isD = true ∧ vl (s.data.toList.take (k + 1)) = 10 * v + ((s[k].toNat : Int) - 48) := by
  rw [take_next s k h, vl_snoc, H.2]
  refine ⟨?_, rfl⟩
  rw [List.all_append, H.1]
  simp [hd]
set_option maxHeartbeats 2000000 in
set_option maxRecDepth 100000 in
theorem rvalue_any (s : ByteArray) (w : World) (h : s.size ≤ 4) :
    Calls Tryz.prog 30 #[.string s] w fun e w' => e = .returned (.int .i64 (valL s.data.toList)) ∧ w = w' := by
  go_enter Tryz.func30, Tryz.ntmps30
  go_wp2_with fail
  go_loop [3, 4] (fun nv iv => ∃ (k : Nat) (v : Int), k ≤ s.size ∧ 0 ≤ v ∧ v ≤ 9999 ∧ Hid ((s.data.toList.take k).all isD = true ∧ vl (s.data.toList.take k) = v) ∧ nv = .int .i64 v ∧ iv = .int .i64 k) (fun _ i => s.size - (intOf i).toNat)
  case atStart => exact ⟨0, 0, by omega, by omega, by omega, ⟨rfl, rfl⟩, rfl, rfl⟩
  case round =>
    obtain ⟨k, v, k1, v0, v1, H, rfl, rfl⟩ := hrel
    by_cases hk : k < s.size
    · have hki : (k : Int) < (s.size : Int) := by omega
      have HD := Lib.hid (not_dig s k hk)
      have HO := Lib.hid (fun hd => one_more s k v hk hd H.out)
      have HB := Lib.hid (vl_bd (s.data.toList.take (k + 1)))
      go_wp2_with fail
      · rename_i h1 h2
        go_ret
        refine ⟨?_, rfl⟩
        rw [HD.out (by simp [isD]; omega)]; rfl
      · rename_i h1 h2
        obtain ⟨a1, a2⟩ := HO.out (by simp [isD]; omega)
        obtain ⟨b1, b2⟩ := HB.out a1 (by rw [List.length_take]; omega)
        refine ⟨⟨k + 1, _, by omega, b1, b2, ⟨a1, rfl⟩, by rw [a2], rfl⟩, ?_⟩
        simp only [intOf]; omega
      · rename_i h1
        go_ret
        refine ⟨?_, rfl⟩
        rw [HD.out (by simp [isD]; omega)]; rfl
    · have e : k = s.size := by omega
      have HE : Hid (valL s.data.toList = v) := by
        obtain ⟨a1, a2⟩ := H.out
        rw [List.take_of_length_le (by simpa using (by omega : s.size ≤ k))] at a1 a2
        unfold Hid valL
        rw [if_pos a1, a2]
      go_wp2_with fail
      go_ret
      exact ⟨by rw [HE.out]; rfl, rfl⟩
end Go.Proofs.YtjebbmnjegndkaaGreatDoor
