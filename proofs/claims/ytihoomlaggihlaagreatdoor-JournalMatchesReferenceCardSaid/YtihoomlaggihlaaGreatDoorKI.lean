/- The contract of the journal's Open, first part: a disk that is off, or has too few sectors; what is read. Under the condition that the tables lie in memory as the program lays them. -/
import Derived.Test.YtihoomlaggihlaaGreatDoorKH
namespace Go.Proofs.YtihoomlaggihlaaGreatDoor
open Go.RowKit

set_option maxHeartbeats 4000000 in
set_option maxRecDepth 100000 in
theorem open_nil (w : World) : Calls Tryz.prog 7 #[.pointer none] w fun e w' => e = .returned (.tuple #[.pointer none, .slice none 0 0, .int .i64 1]) ∧ w = w' := by
  go_enter Tryz.func7, Tryz.ntmps7
  go_wp2_with fail
  go_ret3
  exact ⟨rfl, rfl⟩
set_option maxHeartbeats 4000000 in
set_option maxRecDepth 100000 in
theorem open_off (w : World) (F : Nat → Prop) (d n : Nat) (D : PD) (h : DAt w F d n D) (ho : D.off = true) :
    Calls Tryz.prog 7 #[.pointer (some ⟨d, 0, none⟩)] w fun e w' => e = .returned (.tuple #[.pointer none, .slice none 0 0, .int .i64 21]) ∧ Below w.heap.size w w' := by
  have HR := Lib.hid (read_off w F d n D 0 h ho)
  clear h ho
  go_enter Tryz.func7, Tryz.ntmps7
  go_wp2_with fail
  refine wp_loop_rounds 1 ?_
  rw [rounds_succ]
  go_wp2_with fail
  refine HR.out.mono ?_
  rintro e w1 ⟨rfl, hb⟩
  have HB := Lib.hid hb
  clear hb HR
  go_wp2_with fail
  go_ret3
  exact ⟨rfl, HB.out⟩
/-- the sectors of a disk as they were written last -/
def secs (D : PD) (n : Nat) : List (List UInt8) := (List.range n).map D.rd
theorem secs_len (D : PD) (n : Nat) : (secs D n).length = n := by simp [secs]
theorem secs_succ (D : PD) (n : Nat) : secs D (n + 1) = secs D n ++ [D.rd n] := by simp [secs, List.range_succ]
theorem secs_get (D : PD) (n i : Nat) (h : i < (secs D n).length) : (secs D n)[i] = D.rd i := by simp [secs]
def sliceLen : Value → Nat
  | .slice _ n _ => n
  | _ => 0
/-- sectors read so far -/
def Got (D : PD) (k : Nat) (v : Value) (wo w : World) : Prop := w.ownsRow wo.heap.size 9 1 v k (strs (secs D k)) ∧ Below wo.heap.size wo w
theorem Got.next {D : PD} {k : Nat} {v v' : Value} {wo w w1 w' : World} (h : Got D k v wo w) (hb : Below w.heap.size w w1) (ho : w'.ownsRow wo.heap.size 9 1 v' (k + 1) (strs (secs D k) ++ strs [D.rd k])) (hg : w1.grownBy w' v.ownBlock) : Got D (k + 1) v' wo w' := by
  obtain ⟨h2, h3⟩ := h
  refine ⟨?_, (h3.trans (hb.mono h3.size)).grown hg (Nat.le_trans h3.size hb.size) (fun j hj => (h2.lt j hj).1)⟩
  rw [secs_succ, strs_app]
  exact ho
theorem own_len {w : World} {base e size n : Nat} {v : Value} {xs : List Value} (h : w.ownsRow base e size v n xs) : sliceLen v = n := by
  rcases h.2 with ⟨rfl, e⟩ | ⟨g, cap, cur, rfl, _⟩
  · exact e.symm
  · rfl
/-- how Open ends before it reads a head -/
def OPost (n : Nat) (w : World) (e : Ending) (w' : World) : Prop := n < 3 ∧ e = .returned (.tuple #[.pointer none, .slice none 0 0, .int .i64 1]) ∧ Below w.heap.size w w'
set_option maxHeartbeats 8000000 in
set_option maxRecDepth 100000 in
theorem open_few (w : World) (F : Nat → Prop) (d n : Nat) (D : PD) (h : DAt w F d n D) (ho : D.off = false) (hm : D.pend.length ≤ 5000) (hn3 : n < 3) :
    Calls Tryz.prog 7 #[.pointer (some ⟨d, 0, none⟩)] w (OPost n w) := by
  have HD := Lib.hid h
  have HO := Lib.hid ho
  have hn4 := h.n4
  have H0 : Hid (Got D 0 (.slice none 0 0) w w) := Lib.hid ⟨by simpa [secs, strs] using World.ownsRow_nil w w.heap.size 9 1, Below.refl _ _⟩
  clear h ho
  go_enter Tryz.func7, Tryz.ntmps7
  go_wp2_with fail
  obtain ⟨wo, rfl⟩ : ∃ wo : World, wo = w := ⟨_, rfl⟩
  go_loopw [5, 6, 7] (fun v _ _ wr => ∃ (k : Nat), k ≤ n ∧ sliceLen v = k ∧ Hid (Got D k v wo wr)) (fun v _ _ _ => n - sliceLen v)
  case atStart => exact ⟨0, by omega, rfl, H0⟩
  case round =>
    clear H0
    obtain ⟨k, hk, hv, M⟩ := hrel
    have HV := Lib.hid hv
    have hz : wo.heap.size ≤ wr.heap.size := M.out.2.size
    obtain ⟨a, c, rfl⟩ : ∃ a c, u5 = .slice a k c := by
      rcases M.out.1.2 with ⟨rfl, e⟩ | ⟨g, cap, cur, rfl, _⟩
      · exact ⟨none, 0, by rw [e]⟩
      · exact ⟨_, _, rfl⟩
    clear hv
    have HDR := Lib.hid (HD.out.below M.out.2)
    by_cases hlt : k < n
    · have HR := Lib.hid (read_yes wr F d n D k HDR.out HO.out hlt (by omega))
      obtain ⟨i9, hi9, ha9, hb9, hc9⟩ := info_parts info9
      go_wp2_with fail
      refine HR.out.mono ?_
      rintro e w2 ⟨rfl, hb⟩
      have HB := Lib.hid hb
      have hz2 := hb.size
      have HST := Lib.hid (fun v' w' => M.out.next (v' := v') (w' := w') (hb.alloc hb.size (.cells #[.string ⟨(D.rd k).toArray⟩] 9)))
      have HO2 := Lib.hid (own_below M.out.1 (hb.alloc hb.size (.cells #[.string ⟨(D.rd k).toArray⟩] 9)))
      clear hb HR
      go_wp2_with (at_builtin; refine wpList_append_own _ rfl (.tmp 32) (.tmp 34) 26 rfl wo.heap.size 9 i9 _ 1 16 Tryz.underlying26 hi9 ha9 hb9 hc9 rfl (by decide) _ k (strs (secs D k)) rfl HO2.out ⟨w2.heap.size, 0, none⟩ 1 1 (strs [D.rd k]) rfl rfl (news_one _ _ _) (strs_one _) (by unfold maxLen; omega) (by omega) (by simp; omega) ?_)
      intro v' w3 ho3 hg3 _
      have M2 := Lib.hid (HST.out v' w3 ho3 hg3)
      have HLN := Lib.hid (own_len ho3)
      clear ho3 hg3 HST HO2
      go_wp2_with fail
      go_roundw
      case rel => exact ⟨k + 1, by omega, HLN.out, M2⟩
      case measure =>
        show n - sliceLen v' < n - k
        rw [HLN.out]
        omega
    · obtain rfl : k = n := by omega
      have HR := Lib.hid (read_no wr F d k D k HDR.out HO.out (Nat.le_refl _))
      have hk3 : (k : Int) < 3 := by omega
      go_wp2_with fail
      refine HR.out.mono ?_
      rintro e w2 ⟨rfl, hb⟩
      have HB := Lib.hid (M.out.2.trans (hb.mono hz))
      clear hb HR
      go_wp2_with fail
      go_ret3
      exact ⟨hn3, rfl, HB.out⟩
end Go.Proofs.YtihoomlaggihlaaGreatDoor
