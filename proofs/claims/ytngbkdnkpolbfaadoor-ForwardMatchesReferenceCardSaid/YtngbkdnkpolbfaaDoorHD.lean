/- The contract of the reference's words. Under no condition but sizes. -/
import Derived.Test.YtngbkdnkpolbfaaDoorHC
import Derived.Test.YtngbkdnkpolbfaaDoorHB
import Derived.Deep.AppendLies
import Derived.Laws.OwnMore
import Derived.StillTailTactics
import Derived.BigRegion
namespace Go.Proofs.YtngbkdnkpolbfaaDoor
open Go.RowKit Go.Maps

/-- texts that the call owns -/
def OwnT (w : World) (base g cap : Nat) (l : List ByteArray) : Prop := w.ownsRow base 9 1 (.slice (some ⟨g, 0, none⟩) l.length cap) l.length (strs l)
theorem OwnT.keep {w w' : World} {base g cap : Nat} {l : List ByteArray} (h : OwnT w base g cap l) (hb : Below w.heap.size w w') : OwnT w' base g cap l := own_below h hb
theorem OwnT.rd {w : World} {base g cap : Nat} {l : List ByteArray} (h : OwnT w base g cap l) : RdS w (some ⟨g, 0, none⟩) l := by
  obtain ⟨_, A, c, hv, _, hr⟩ := own_strs h
  injection hv with hv
  rw [hv]; exact hr
theorem OwnT.last {w : World} {base g cap : Nat} {a : List ByteArray} {x : ByteArray} (h : OwnT w base g cap (a ++ [x])) : w.cell? ⟨g, a.length, none⟩ = some (.string x) ∧ w.frozen? ⟨g, a.length, none⟩ = false ∧ base ≤ g ∧ g < w.heap.size := by
  refine ⟨?_, World.ownsRow.frozenAt h _, (h.lt g rfl).1, (h.lt g rfl).2⟩
  rw [World.ownsRow.cellAt h _ (by simp)]
  simp [strs]
theorem OwnT.set {w : World} {base g cap : Nat} {a : List ByteArray} {x : ByteArray} (h : OwnT w base g cap (a ++ [x])) (y : ByteArray) : OwnT (w.setCell ⟨g, a.length, none⟩ (.string y)) base g cap (a ++ [y]) := by
  have k := (World.ownsRow.stored h a.length (.string y)).1
  unfold OwnT
  have e : (strs (a ++ [x])).set a.length (.string y) = strs (a ++ [y]) := by simp [strs]
  rw [e] at k
  simpa using k
/-- what holds at the head of a round of words -/
def WI (s : ByteArray) (k n g cap : Nat) (w wr : World) : Prop :=
  ∃ out : List ByteArray, out.length = n ∧ out.map (·.data.toList) = wsp (s.data.toList.take k) ∧ OwnT wr w.heap.size g cap out ∧ Below w.heap.size w wr
theorem take_next1 (s : ByteArray) (k : Nat) (h : k < s.size) : s.data.toList.take (k + 1) = s.data.toList.take k ++ [s[k]] := by
  have hl : k < s.data.toList.length := by simpa using h
  rw [List.take_succ_eq_append_getElem hl]; rfl
theorem one_byte (s : ByteArray) (k : Nat) (h : k < s.size) : (s.extract k (k + 1)).data.toList = [s[k]] := by
  have hl : k < s.data.toList.length := by simpa using h
  have e : (s.extract k (k + 1)).data.toList = (s.data.toList.drop k).take 1 := by
    rw [ByteArray.data_extract, Array.toList_extract]
    simp [List.extract_eq_take_drop]
  rw [e, List.drop_eq_getElem_cons hl]
  rfl
theorem size_one {x : ByteArray} {c : UInt8} (h : x.data.toList = [c]) : x.size = 1 := by
  have k := congrArg List.length h
  simpa using k
theorem app_one {x y : ByteArray} {c : UInt8} (h : y.data.toList = [c]) : (x ++ y).data.toList = x.data.toList ++ [c] := by
  rw [ByteArray.data_append, Array.toList_append, h]
/-- what words leaves -/
def WPost (s : ByteArray) (w : World) (e : Ending) (w' : World) : Prop :=
  ∃ (n g cap : Nat) (out : List ByteArray), e = .returned (.slice (some ⟨g, 0, none⟩) n cap) ∧ out.length = n ∧ n ≤ 9 ∧ OwnT w' w.heap.size g cap out ∧ Below w.heap.size w w' ∧ (out.map (·.data.toList) = wsp s.data.toList ∨ (n = 9 ∧ 9 ≤ (wsp s.data.toList).length))

set_option maxHeartbeats 16000000 in
set_option maxRecDepth 100000 in
theorem rwords_any (s : ByteArray) (w : World) (hs : s.size ≤ 300) : Calls Tryd.prog 38 #[.string s] w (WPost s w) := by
  have W0 : Hid (WI s 0 1 w.heap.size 1 w (w.alloc (.cells #[.string ⟨#[]⟩] 9))) := Lib.hid ⟨[⟨#[]⟩], rfl, rfl, ⟨by simp [strs], Or.inr ⟨w.heap.size, 1, #[.string ⟨#[]⟩], rfl, Nat.le_refl _, heap_alloc_new w _, by simp, by unfold maxLen; omega, by simp, by simp [strs]⟩⟩, (Gr.one w _).below⟩
  obtain ⟨i9, hi9, ha9, hb9, hc9⟩ := info_parts info9
  go_enter Tryd.func38, Tryd.ntmps38
  go_wp2_with fail
  go_loopw [3, 4] (fun v iv wr => ∃ k : Nat, k ≤ s.size ∧ iv = .int .i64 k ∧ ∃ g cap n : Nat, v = .slice (some ⟨g, 0, none⟩) n cap ∧ n ≤ 9 ∧ Hid (WI s k n g cap w wr)) (fun _ i _ => s.size - (intOf i).toNat)
  case atStart => exact ⟨0, by omega, rfl, w.heap.size, 1, 1, rfl, by omega, W0⟩
  case round =>
    clear W0
    obtain ⟨k, hk, rfl, g, cap, n, rfl, hn, HW⟩ := hrel
    by_cases hlt : k < s.size
    · by_cases hn9 : n < 9
      · obtain ⟨out, ho1, ho2, ho3, ho4⟩ := HW.out
        have HO2 := Lib.hid ho2
        have HO3 := Lib.hid ho3
        have HO4 := Lib.hid ho4
        have HT := Lib.hid (take_next1 s k hlt)
        have HB1 := Lib.hid (one_byte s k hlt)
        by_cases e : s[k] = 32
        · have d1 : (((s[k]).toNat : Int) == 32) = true := by rw [e]; rfl
          have HX : Hid (wsp (s.data.toList.take (k + 1)) = wsp (s.data.toList.take k) ++ [[]]) := Lib.hid (by rw [HT.out, e, wsp_blank])
          have HN := Lib.hid (fun j u (hu : (strs [⟨#[]⟩])[j]? = some u) => news1 (w := wr) hu)
          have HZ := Lib.hid ho4.size
          have HLN := Lib.hid ho1
          clear ho1 ho2 ho3 ho4 HW e HB1 HT
          go_wp2_with (at_builtin; refine wpList_append_lies _ rfl (.tmp 21) (.tmp 22) 30 rfl w.heap.size 9 i9 _ 1 16 Tryd.underlying30 hi9 ha9 hb9 hc9 rfl (by decide) (.slice (some ⟨g, 0, none⟩) n cap) n (strs out) rfl (by have h := (HO3.out.keep (Gr.one wr (.cells #[.string ⟨#[]⟩] 9)).below); unfold OwnT at h; rw [HLN.out] at h; exact h) ⟨wr.heap.size, 0, none⟩ 1 1 (strs [⟨#[]⟩]) rfl rfl HN.out (by intro u hu; simp [strs] at hu; subst hu; rfl) (by decide) (by unfold maxLen; omega) (by omega) (by have := HZ.out; simp; omega) _ rfl ?_; intro g1 cap1 w5 ho1 hg1 hl1 hm1; (have W5 : Hid (WI s (k + 1) (n + 1) g1 cap1 w w5) := Lib.hid ⟨out ++ [⟨#[]⟩], by simp [HLN.out], by rw [HX.out, List.map_append, HO2.out]; rfl, by unfold OwnT; rw [strs_app, List.length_append, HLN.out]; exact ho1, (HO4.out.alloc HZ.out (.cells #[.string ⟨#[]⟩] 9)).grown hg1 (by have := HZ.out; simp; omega) (fun k' hk' => (HO3.out.lt k' (by simpa [Value.ownBlock] using hk')).1)⟩); clear ho1 hg1 hl1 hm1)
          go_roundw
          case rel => exact ⟨k + 1, by omega, by go_num, g1, cap1, n + 1, rfl, by omega, W5⟩
          case measure => simp [intOf]; omega
        · have d1 : (((s[k]).toNat : Int) == 32) = false := by
            rw [beq_eq_false_iff_ne]; intro h; apply e; exact UInt8.toNat_inj.1 (by simpa using (show (s[k]).toNat = 32 by omega))
          obtain ⟨a, x, rfl⟩ : ∃ a x, out = a ++ [x] := by
            rcases List.eq_nil_or_concat out with h | ⟨a, x, h⟩
            · exfalso; rw [h] at ho2; exact wsp_ne _ ho2.symm
            · exact ⟨a, x, by rw [h, List.concat_eq_append]⟩
          obtain ⟨q0, f0, hbg, hgl⟩ := ho3.last
          have hx : x.size ≤ 300 := by
            have h1 : x.data.toList ∈ wsp (s.data.toList.take k) := by rw [← ho2]; simp
            have h2 := wsp_le _ _ h1
            rw [List.length_take] at h2
            have : x.data.toList.length = x.size := by simp
            omega
          have HX : Hid (wsp (s.data.toList.take (k + 1)) = a.map (·.data.toList) ++ [x.data.toList ++ [s[k]]]) := Lib.hid (by rw [HT.out]; exact wsp_other e _ _ _ (by rw [← ho2]; simp))
          obtain ⟨m, hm⟩ : ∃ m, a.length = m := ⟨_, rfl⟩
          have hnm : n = m + 1 := by rw [← ho1, ← hm]; simp
          subst hnm
          rw [hm] at q0 f0
          have HM := Lib.hid hm
          have HEX : Hid ((s.extract k (k + 1)).size = 1) := Lib.hid (size_one HB1.out)
          have hw1 : IntKind.i64.wrap ((m : Int) + 1 - 1) = (m : Int) := by rw [show (m : Int) + 1 - 1 = m by omega]; exact IntWalk.i64_in _ (by omega)
          have hw2 : IntKind.i64.wrap ((k : Int) + 1) = (k : Int) + 1 := IntWalk.i64_in _ (by omega)
          clear ho1 ho2 ho3 ho4 HW e hm HT
          go_wp2_with fail
          have hk0 : (0 : Int) ≤ (k : Int) := Int.natCast_nonneg _
          have hk1 : (k : Int) < (s.size : Int) := by omega
          have hk2 : (0 : Int) ≤ (k : Int) + 1 := by omega
          have hk3 : (k : Int) ≤ (k : Int) + 1 := by omega
          have hk4 : (k : Int) + 1 ≤ (s.size : Int) := by omega
          have hk5 : ((k : Int) + 1).toNat = k + 1 := by omega
          have hm0 : (0 : Int) ≤ (m : Int) := Int.natCast_nonneg _
          have hm1 : (m : Int) < (m : Int) + 1 := by omega
          have hes := HEX.out
          go_region
          have W5 : Hid (WI s (k + 1) (m + 1) g cap w ((wr.setCell ⟨g, m, none⟩ (.string (x ++ s.extract k (k + 1)))).drew)) := Lib.hid ⟨a ++ [x ++ s.extract k (k + 1)], by simp [HM.out], by rw [HX.out, List.map_append, List.map_cons, List.map_nil, app_one HB1.out], by have h := HO3.out.set (x ++ s.extract k (k + 1)); rw [HM.out] at h; exact h.keep (Gr.drewn _).below, (HO4.out.setCell hbg _).drew⟩
          clear q0 f0 hw1 hw2 hk0 hk1 hk2 hk3 hk4 hk5 hm0 hm1 hes
          go_wp2_with fail
          go_roundw
          case rel => exact ⟨k + 1, by omega, by go_num, g, cap, m + 1, rfl, hn, W5⟩
          case measure => simp [intOf]; omega
      · obtain rfl : n = 9 := by omega
        obtain ⟨out, ho1, ho2, ho3, ho4⟩ := HW.out
        have HE : Hid (WPost s w (.returned (.slice (some ⟨g, 0, none⟩) 9 cap)) wr) := Lib.hid ⟨9, g, cap, out, rfl, ho1, by omega, ho3, ho4, Or.inr ⟨rfl, by
          have h := wsp_len_le (s.data.toList.take k) (s.data.toList.drop k)
          rw [List.take_append_drop, ← ho2, List.length_map, ho1] at h
          exact h⟩⟩
        clear ho1 ho2 ho3 ho4 HW
        go_wp2_with fail
        go_ret
        exact HE.out
    · obtain rfl : k = s.size := by omega
      obtain ⟨out, ho1, ho2, ho3, ho4⟩ := HW.out
      have HE : Hid (WPost s w (.returned (.slice (some ⟨g, 0, none⟩) n cap)) wr) := Lib.hid ⟨n, g, cap, out, rfl, ho1, hn, ho3, ho4, Or.inl (by rw [ho2, List.take_of_length_le (by simp)])⟩
      clear ho1 ho2 ho3 ho4 HW
      go_wp2_with fail
      go_ret
      exact HE.out
end Go.Proofs.YtngbkdnkpolbfaaDoor
