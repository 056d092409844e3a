/- The contract of the journal's split. Under no condition but sizes. -/
import Derived.Test.YtihoomlaggihlaaGreatDoorKD
namespace Go.Proofs.YtihoomlaggihlaaGreatDoor
open Go.RowKit

theorem info9 : (Tryz.prog.info? 9).map (fun i => (i.zero, i.size, i.bytes)) = some (some (.string ⟨#[]⟩), 1, 16) := by kernel_rfl
def strLen : Value → Nat
  | .string s => s.size
  | _ => 0
/-- pieces made, and the rest of the text -/
def Cutting (t : List UInt8) (B : Nat) (wo : World) (v : Value) (r : List UInt8) (done : List (List UInt8)) (w : World) : Prop :=
  pieces t = done ++ pieces r ∧ r.length ≤ t.length ∧ done.length + r.length ≤ t.length ∧ w.ownsRow B 9 1 v done.length (strs done) ∧ Below B wo w
theorem strs_app (a b : List (List UInt8)) : strs (a ++ b) = strs a ++ strs b := by simp [strs]
theorem strs_one (l : List (List UInt8)) : ∀ u ∈ strs l, u.oneCell' = true := fun u hu => by
  obtain ⟨_, _, rfl⟩ := List.mem_map.1 hu
  rfl
theorem news_one (w : World) (x : Value) (t : TypeId) : ∀ j u, [x][j]? = some u → (w.alloc (.cells #[x] t)).cell? ((⟨w.heap.size, 0, none⟩ : Addr).add j) = some u :=
  World.news_of_block (heap_alloc_new w (.cells #[x] t))
theorem extract_drop (l : List UInt8) (j : Nat) : (⟨l.toArray⟩ : ByteArray).extract j l.length = ⟨(l.drop j).toArray⟩ := by
  apply ByteArray.ext
  apply Array.toList_inj.1
  rw [Lib.extract_data]
  exact List.take_of_length_le (by simp)
theorem Cutting.step {t r : List UInt8} {B : Nat} {wo : World} {v v' : Value} {done : List (List UInt8)} {w w1 w' : World} (h : Cutting t B wo v r done w) (hr : r ≠ []) (hB : B ≤ w.heap.size) (hg1 : Below w.heap.size w w1) (ho : w'.ownsRow B 9 1 v' (done.length + 1) (strs done ++ strs [r.take (min 46 r.length)])) (hg : w1.grownBy w' v.ownBlock) : Cutting t B wo v' (r.drop (min 46 r.length)) (done ++ [r.take (min 46 r.length)]) w' := by
  obtain ⟨h1, h2, h3, h4, h5⟩ := h
  have hl := List.length_pos_iff.2 hr
  have e1 : r.take (min 46 r.length) = r.take 46 := by
    by_cases h : 46 ≤ r.length
    · rw [Nat.min_eq_left h]
    · rw [Nat.min_eq_right (by omega), List.take_of_length_le (Nat.le_refl _), List.take_of_length_le (by omega)]
  have e2 : r.drop (min 46 r.length) = r.drop 46 := by
    by_cases h : 46 ≤ r.length
    · rw [Nat.min_eq_left h]
    · rw [Nat.min_eq_right (by omega), List.drop_of_length_le (Nat.le_refl _), List.drop_of_length_le (by omega)]
  refine ⟨?_, by rw [List.length_drop]; omega, by rw [List.length_drop, List.length_append]; simp; omega, ?_, ?_⟩
  · rw [e1, e2, h1, pieces_cons hr]; simp
  · rw [strs_app, List.length_append]; exact ho
  · exact (h5.trans (hg1.mono hB)).grown hg (Nat.le_trans hB hg1.size) (fun k hk => (h4.lt k hk).1)
set_option maxHeartbeats 4000000 in
set_option maxRecDepth 100000 in
theorem split_any (w : World) (t : List UInt8) (ht : t.length ≤ 10000000) :
    Calls Tryz.prog 46 #[.string ⟨t.toArray⟩] w fun e w' => ∃ v, e = .returned v ∧ w'.ownsRow w.heap.size 9 1 v (pieces t).length (strs (pieces t)) ∧ Below w.heap.size w w' := by
  have H0 : Hid (Cutting t w.heap.size w (.slice none 0 0) t [] w) := Lib.hid ⟨rfl, Nat.le_refl _, by simp, World.ownsRow_nil _ _ _ _, Below.refl _ _⟩
  go_enter Tryz.func46, Tryz.ntmps46
  go_wp2_with fail
  obtain ⟨wo, rfl⟩ : ∃ wo : World, wo = w := ⟨_, rfl⟩
  go_loopw [0, 3, 4] (fun s v _ wr => ∃ r done, s = .string ⟨List.toArray r⟩ ∧ Hid (Cutting t wo.heap.size wo v r done wr)) (fun s _ _ _ => strLen s)
  case atStart => exact ⟨t, [], rfl, H0⟩
  case round =>
    clear H0
    obtain ⟨r, done, rfl, M⟩ := hrel
    have hsz : (⟨r.toArray⟩ : ByteArray).size = r.length := by simp [ByteArray.size]
    by_cases hr : r = []
    · subst hr
      go_wp2_with fail
      go_ret
      have e := M.out.1
      rw [pieces_nil, List.append_nil] at e
      exact ⟨_, rfl, by rw [e]; exact M.out.2.2.2.1, M.out.2.2.2.2⟩
    · have hb : r.isEmpty = false := by simpa using hr
      have HR := Lib.hid hr
      have hz : wo.heap.size ≤ wr.heap.size := M.out.2.2.2.2.size
      have hlen : done.length + r.length ≤ 10000000 := by have := M.out.2.2.1; omega
      have hlp : 0 < r.length := List.length_pos_iff.2 hr
      obtain ⟨i9, hi9, ha9, hb9, hc9⟩ := info_parts info9
      have hmn : min (46 : Int) (r.length : Int) = ((min 46 r.length : Nat) : Int) := by omega
      have HST := Lib.hid (fun v' w' => M.out.step (v' := v') (w' := w') hr hz (Gr.one wr (.cells #[.string ⟨(r.take (min 46 r.length)).toArray⟩] 9)).below)
      have hN : min 46 r.length ≤ r.length := by omega
      have hN0 : 0 < min 46 r.length := by omega
      generalize hNN : min 46 r.length = N at *
      have HNN := Lib.hid hNN
      clear hNN hr
      have hn0 : (0 : Int) ≤ (N : Int) := Int.natCast_nonneg _
      have hn1 : (N : Int) ≤ (r.length : Int) := by omega
      have ex1 := extract_take r N
      have ex2 := extract_drop r N
      have HO := Lib.hid (own_below M.out.2.2.2.1 (Gr.one wr (.cells #[.string ⟨(r.take N).toArray⟩] 9)).below)
      go_wp2_with (at_builtin; refine wpList_append_own _ rfl (.tmp 10) (.tmp 14) 26 rfl wo.heap.size 9 i9 _ 1 16 Tryz.underlying26 hi9 ha9 hb9 hc9 rfl (by decide) _ done.length (strs done) rfl HO.out ⟨wr.heap.size, 0, none⟩ 1 1 (strs [r.take N]) rfl rfl (news_one _ _ _) (strs_one _) (by unfold maxLen; omega) (by omega) (by simp; omega) ?_)
      intro v' w2 ho2 hg2 _
      have M2 := Lib.hid (HST.out v' w2 ho2 hg2)
      clear ho2 hg2 HST HO
      go_wp2_with fail
      go_roundw
      case rel => exact ⟨r.drop N, done ++ [r.take N], rfl, M2⟩
      case measure => simp [strLen, ByteArray.size]; omega
end Go.Proofs.YtihoomlaggihlaaGreatDoor
