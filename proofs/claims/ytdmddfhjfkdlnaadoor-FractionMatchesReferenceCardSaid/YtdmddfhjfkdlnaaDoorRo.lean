/- The contract of the reference's Parse. Under no condition. -/
import Derived.Test.YtdmddfhjfkdlnaaDoorRn
namespace Go.Proofs.YtdmddfhjfkdlnaaDoor
open Go.RowKit

theorem number_eq {s : ByteArray} {L : List UInt8} {n : Nat} {i : Bool} (w : World) (hs : s.size ≤ 100) (h : s.data.toList = L) (hn : nmV L = n) (hi : nmB L = i) :
    Calls Tryd.prog 48 #[.string s] w fun e w' => e = .returned (.tuple #[.int .i64 n, .bool i]) ∧ w = w' := by
  have := number_any s w hs
  rwa [h, hn, hi] at this
def rtT (a b : Int) : ByteArray := if vld a b = true then ⟨(txt a b).toArray⟩ else ⟨#[]⟩
def rtE (a b : Int) : Int := if vld a b = true then 0 else 1
theorem rtext_any (a b : Int) (w : World) (h0 : -9223372036854775808 ≤ a) (h1 : a ≤ 9223372036854775807) (k0 : -9223372036854775808 ≤ b) (k1 : b ≤ 9223372036854775807) :
    Calls Tryd.prog 23 #[.agg #[.int .i64 a, .int .i64 b]] w fun e w' => e = .returned (.tuple #[.string (rtT a b), .int .i64 (rtE a b)]) ∧ Below w.heap.size w w' := by
  unfold rtT rtE
  by_cases hv : vld a b = true
  · rw [if_pos hv, if_pos hv]; exact rtext_yes a b w hv
  · rw [if_neg hv, if_neg hv]; exact rtext_no a b w (by simpa using hv) h0 h1 k0 k1
theorem ext_list (s : ByteArray) (a b : Nat) : (s.extract a b).data.toList = (s.data.toList.take b).drop a := by
  rw [ByteArray.data_extract, Array.toList_extract, List.extract_eq_take_drop, List.take_drop]
  rcases Nat.lt_or_ge a b with c | c
  · rw [show a + (b - a) = b by omega]
  · rw [show a + (b - a) = a by omega, List.drop_eq_nil_of_le (by rw [List.length_take]; omega), List.drop_eq_nil_of_le (by rw [List.length_take]; omega)]
theorem first_byte (s : ByteArray) (k : Nat) (h : 0 < (s.extract 0 k).size) : ((s.data.toList.take k).head? = some 45) ↔ (((s.extract 0 k)[0]'h).toNat : Int) = 45 := by
  have e : (s.data.toList.take k).head? = some ((s.extract 0 k)[0]'h) := by
    have e1 : s.data.toList.take k = (s.extract 0 k).data.toList := by rw [ext_list]; simp
    rw [e1]
    have : 0 < (s.extract 0 k).data.toList.length := by simpa using h
    rw [List.head?_eq_getElem?, List.getElem?_eq_getElem this]
    rfl
  rw [e, Option.some.injEq]
  constructor
  · intro q; rw [q]; rfl
  · intro q
    apply UInt8.toNat_inj.1
    show _ = 45
    omega
theorem first_whole (s : ByteArray) (h : 0 < s.size) : ((s.data.toList.take s.size).head? = some 45) ↔ ((s[0]'h).toNat : Int) = 45 := by
  have e : (s.data.toList.take s.size).head? = some (s[0]'h) := by
    rw [List.take_of_length_le (by simp)]
    have : 0 < s.data.toList.length := by simpa using h
    rw [List.head?_eq_getElem?, List.getElem?_eq_getElem this]
    rfl
  rw [e, Option.some.injEq]
  constructor
  · intro q; rw [q]; rfl
  · intro q
    apply UInt8.toNat_inj.1
    show _ = 45
    omega
theorem lt_len {s : ByteArray} {k : Nat} (h : k < s.size) : k < s.data.toList.length := by rw [show s.data.toList.length = s.size by simp]; exact h
theorem ext_end (s : ByteArray) (k : Nat) : (s.extract k s.size).data.toList = s.data.toList.drop k := by
  rw [ext_list, List.take_of_length_le (by simp)]
/-- what Parse answers for a text whose first slash is at a place -/
def ans (l : List UInt8) (i : Bool) (v1 v2 : Int) : Ending := if i = true ∧ vld v1 v2 = true ∧ txt v1 v2 = l then .returned (.tuple #[.agg #[.int .i64 v1, .int .i64 v2], .int .i64 0]) else .returned (.tuple #[.agg #[.int .i64 0, .int .i64 0], .int .i64 5])
theorem ans_no {l : List UInt8} {i : Bool} {v1 v2 : Int} (h : i = false ∨ rtE v1 v2 ≠ 0 ∨ (rtT v1 v2).data.toList ≠ l) : ans l i v1 v2 = .returned (.tuple #[.agg #[.int .i64 0, .int .i64 0], .int .i64 5]) := by
  unfold ans
  rw [if_neg]
  rintro ⟨h1, h2, h3⟩
  unfold rtE rtT at h
  rw [if_pos h2, if_pos h2] at h
  rcases h with h | h | h
  · rw [h] at h1; cases h1
  · exact h rfl
  · exact h h3
theorem ans_yes {l : List UInt8} {v1 v2 : Int} (h : rtE v1 v2 = 0) (h' : (rtT v1 v2).data.toList = l) : ans l true v1 v2 = .returned (.tuple #[.agg #[.int .i64 v1, .int .i64 v2], .int .i64 0]) := by
  unfold ans
  have hv : vld v1 v2 = true := by
    unfold rtE at h
    by_cases c : vld v1 v2 = true
    · exact c
    · rw [if_neg c] at h; cases h
  unfold rtT at h'
  rw [if_pos hv] at h'
  rw [if_pos ⟨rfl, hv, h'⟩]
theorem ba_ne {a b : ByteArray} (h : a.data.toList ≠ b.data.toList) : (a.toList != b.toList) = true ∧ (a.toList == b.toList) = false ∧ a ≠ b := by
  rw [ByteArray.toList_eq, ByteArray.toList_eq, bne_iff_ne, beq_eq_false_iff_ne]
  exact ⟨h, h, fun e => h (by rw [e])⟩

set_option maxHeartbeats 20000000 in
set_option maxRecDepth 100000 in
theorem rparse_walk (s : ByteArray) (w : World) (hs : s.size ≤ 100) (Q : Ending → Prop)
    (hQ : ∀ k : Nat, k ≤ s.size → (∀ j (hj : j < s.size), j < k → s[j] ≠ 47) → (∀ hj : k < s.size, s[k] = 47) → Q (ans s.data.toList (rdI s.data.toList k) (rdS s.data.toList k) (rdD s.data.toList k))) :
    Calls Tryd.prog 25 #[.string s] w fun e w' => Q e ∧ Below w.heap.size w w' := by
  have HQ := Lib.hid hQ
  clear hQ
  go_enter Tryd.func25, Tryd.ntmps25
  go_wp2_with fail
  have R0 := Lib.hid (Blk.made w (.int .i64 0) (.int .i64 0) 23)
  have GW := Lib.hid (Gr.one w (.cells #[.int .i64 0, .int .i64 0] 23)).below
  have hz0 : (w.alloc (.cells #[.int .i64 0, .int .i64 0] 23)).heap.size = w.heap.size + 1 := by simp
  generalize w.alloc (.cells #[.int .i64 0, .int .i64 0] 23) = W at *
  go_loop [4] (fun t => ∃ k : Nat, k ≤ s.size ∧ t = .int .i64 k ∧ Hid (∀ j (hj : j < s.size), j < k → s[j] ≠ 47)) (fun t => s.size - (intOf t).toNat)
  case atStart => exact ⟨0, by omega, rfl, Lib.hid (fun j hj h => by omega)⟩
  case round =>
    obtain ⟨k, hk, rfl, HK⟩ := hrel
    by_cases hlt : k < s.size
    · by_cases hc : s[k] = 47
      · have b1 : ((s[k].toNat : Int) != 47) = false := by rw [hc]; rfl
        by_cases hk0 : k = 0
        · have HD : ¬ ((s.data.toList.take k).head? = some 45) := by rw [hk0]; simp
          subst hk0
          have HN1 := Lib.hid (show rdN s.data.toList 0 = s.data.toList.take 0 from if_neg HD)
          have HS1 := Lib.hid (show rdS s.data.toList 0 = (nmV (rdN s.data.toList 0) : Int) from if_neg HD)
          have hn1 := nmV_le (rdN s.data.toList 0)
          clear HD
          generalize he1 : nmV (rdN s.data.toList 0) = n1 at *
          generalize hi1 : nmB (rdN s.data.toList 0) = i1 at *
          have HE1 := Lib.hid he1
          have HI1 := Lib.hid hi1
          clear he1 hi1
          have C1 := Lib.hid (fun (t : ByteArray) (W : World) (hs : t.size ≤ 100) (ht : t.data.toList = rdN s.data.toList 0) => number_eq W hs ht HE1.out HI1.out)
          have hn2 := nmV_le (s.data.toList.drop (0 + 1))
          have HD2 := Lib.hid (show rdD s.data.toList 0 = (nmV (s.data.toList.drop (0 + 1)) : Int) from if_pos (lt_len hlt))
          have HI := Lib.hid (show rdI s.data.toList 0 = (i1 && nmB (s.data.toList.drop (0 + 1))) by unfold rdI; rw [HI1.out, show decide (¬ 0 < s.data.toList.length) = false from decide_eq_false (fun h => h (lt_len hlt)), Bool.false_or])
          generalize he2 : nmV (s.data.toList.drop (0 + 1)) = n2 at *
          generalize hi2 : nmB (s.data.toList.drop (0 + 1)) = i2 at *
          have HE2 := Lib.hid he2
          have HI2 := Lib.hid hi2
          clear he2 hi2
          have C2 := Lib.hid (fun (t : ByteArray) (W : World) (hs : t.size ≤ 100) (ht : t.data.toList = s.data.toList.drop (0 + 1)) => number_eq W hs ht HE2.out HI2.out)
          obtain ⟨is, his⟩ : ∃ is, (i1 && i2) = is := ⟨_, rfl⟩
          have HA := Lib.hid (HQ.out 0 (by omega) HK.out (fun _ => hc))
          rw [HI.out, HS1.out, HD2.out] at HA
          clear HQ HS1 HD2 HI HK hc
          have TX := Lib.hid (fun W => rtext_any (n1 : Int) (n2 : Int) W (by omega) (by omega) (by omega) (by omega))
          have HNO := Lib.hid (fun i h => ans_no (l := s.data.toList) (i := i) (v1 := (n1 : Int)) (v2 := (n2 : Int)) h)
          have HYE := Lib.hid (fun h h' => ans_yes (l := s.data.toList) (v1 := (n1 : Int)) (v2 := (n2 : Int)) h h')
          generalize rtT (n1 : Int) (n2 : Int) = T at *
          generalize rtE (n1 : Int) (n2 : Int) = E at *
          rw [his] at HA
          cases i1 <;> cases i2 <;> simp only [Bool.and_true, Bool.and_false, Bool.and_self] at his <;> subst his
          · rw [HNO.out false (Or.inl rfl)] at HA
            clear HYE HNO
            go_wp2_with fail
            refine (C1.out _ _ (by first | omega | (simp; omega) | simp) (by rw [HN1.out]; first | (rw [ext_list]; simp; done) | (simp; done) | (rw [hk0]; rfl) | (rw [List.take_of_length_le (by simp)]; done) | (rw [ext_list, ext_list]; simp; done))).mono ?_
            rintro e w1 ⟨rfl, rfl⟩
            go_wp2_with fail
            refine (C2.out _ _ (by first | omega | (simp; omega) | simp) (ext_end s _)).mono ?_
            rintro e w1 ⟨rfl, rfl⟩
            go_wp2_with fail
            have R1 := Lib.hid (R0.out.keep (Gr.one W (.cells #[.int .i64 (n1 : Int), .int .i64 (n2 : Int)] 23)))
            have F1 := Lib.hid (Blk.made W (.int .i64 (n1 : Int)) (.int .i64 (n2 : Int)) 23)
            have GW1 := Lib.hid (GW.out.trans ((Gr.one W (.cells #[.int .i64 (n1 : Int), .int .i64 (n2 : Int)] 23)).below.mono GW.out.size))
            refine (TX.out _).mono ?_
            rintro e w7 ⟨rfl, hb⟩
            obtain ⟨s1, x1, y1, f1, e1⟩ := R1.out.below hb
            obtain ⟨s2, x2, y2, f2, e2⟩ := F1.out.below hb
            rw [hz0] at x2 y2
            clear f2 e2 s2
            have GW7 := Lib.hid (GW1.out.trans (hb.mono GW1.out.size))
            clear hb R1 F1 GW1
            go_wp2_with fail
            refine bodyPost_ret (v := .tuple #[.agg #[.int .i64 0, .int .i64 0], .int .i64 5]) (by simp [results, Tryd.results25, go_sem, x1, y1]) rfl ⟨HA.out, ?_⟩
            exact put_below GW7.out (Nat.le_refl _)
          · rw [HNO.out false (Or.inl rfl)] at HA
            clear HYE HNO
            go_wp2_with fail
            refine (C1.out _ _ (by first | omega | (simp; omega) | simp) (by rw [HN1.out]; first | (rw [ext_list]; simp; done) | (simp; done) | (rw [hk0]; rfl) | (rw [List.take_of_length_le (by simp)]; done) | (rw [ext_list, ext_list]; simp; done))).mono ?_
            rintro e w1 ⟨rfl, rfl⟩
            go_wp2_with fail
            refine (C2.out _ _ (by first | omega | (simp; omega) | simp) (ext_end s _)).mono ?_
            rintro e w1 ⟨rfl, rfl⟩
            go_wp2_with fail
            have R1 := Lib.hid (R0.out.keep (Gr.one W (.cells #[.int .i64 (n1 : Int), .int .i64 (n2 : Int)] 23)))
            have F1 := Lib.hid (Blk.made W (.int .i64 (n1 : Int)) (.int .i64 (n2 : Int)) 23)
            have GW1 := Lib.hid (GW.out.trans ((Gr.one W (.cells #[.int .i64 (n1 : Int), .int .i64 (n2 : Int)] 23)).below.mono GW.out.size))
            refine (TX.out _).mono ?_
            rintro e w7 ⟨rfl, hb⟩
            obtain ⟨s1, x1, y1, f1, e1⟩ := R1.out.below hb
            obtain ⟨s2, x2, y2, f2, e2⟩ := F1.out.below hb
            rw [hz0] at x2 y2
            clear f2 e2 s2
            have GW7 := Lib.hid (GW1.out.trans (hb.mono GW1.out.size))
            clear hb R1 F1 GW1
            go_wp2_with fail
            refine bodyPost_ret (v := .tuple #[.agg #[.int .i64 0, .int .i64 0], .int .i64 5]) (by simp [results, Tryd.results25, go_sem, x1, y1]) rfl ⟨HA.out, ?_⟩
            exact put_below GW7.out (Nat.le_refl _)
          · rw [HNO.out false (Or.inl rfl)] at HA
            clear HYE HNO
            go_wp2_with fail
            refine (C1.out _ _ (by first | omega | (simp; omega) | simp) (by rw [HN1.out]; first | (rw [ext_list]; simp; done) | (simp; done) | (rw [hk0]; rfl) | (rw [List.take_of_length_le (by simp)]; done) | (rw [ext_list, ext_list]; simp; done))).mono ?_
            rintro e w1 ⟨rfl, rfl⟩
            go_wp2_with fail
            refine (C2.out _ _ (by first | omega | (simp; omega) | simp) (ext_end s _)).mono ?_
            rintro e w1 ⟨rfl, rfl⟩
            go_wp2_with fail
            have R1 := Lib.hid (R0.out.keep (Gr.one W (.cells #[.int .i64 (n1 : Int), .int .i64 (n2 : Int)] 23)))
            have F1 := Lib.hid (Blk.made W (.int .i64 (n1 : Int)) (.int .i64 (n2 : Int)) 23)
            have GW1 := Lib.hid (GW.out.trans ((Gr.one W (.cells #[.int .i64 (n1 : Int), .int .i64 (n2 : Int)] 23)).below.mono GW.out.size))
            refine (TX.out _).mono ?_
            rintro e w7 ⟨rfl, hb⟩
            obtain ⟨s1, x1, y1, f1, e1⟩ := R1.out.below hb
            obtain ⟨s2, x2, y2, f2, e2⟩ := F1.out.below hb
            rw [hz0] at x2 y2
            clear f2 e2 s2
            have GW7 := Lib.hid (GW1.out.trans (hb.mono GW1.out.size))
            clear hb R1 F1 GW1
            go_wp2_with fail
            refine bodyPost_ret (v := .tuple #[.agg #[.int .i64 0, .int .i64 0], .int .i64 5]) (by simp [results, Tryd.results25, go_sem, x1, y1]) rfl ⟨HA.out, ?_⟩
            exact put_below GW7.out (Nat.le_refl _)
          · by_cases q1 : E = 0
            · subst q1
              by_cases q2 : T.data.toList = s.data.toList
              · rw [HYE.out rfl q2] at HA
                obtain rfl : s = T := (ByteArray.ext (Array.toList_inj.1 q2)).symm
                clear q2 HYE HNO
                go_wp2_with fail
                refine (C1.out _ _ (by first | omega | (simp; omega) | simp) (by rw [HN1.out]; first | (rw [ext_list]; simp; done) | (simp; done) | (rw [hk0]; rfl) | (rw [List.take_of_length_le (by simp)]; done) | (rw [ext_list, ext_list]; simp; done))).mono ?_
                rintro e w1 ⟨rfl, rfl⟩
                go_wp2_with fail
                refine (C2.out _ _ (by first | omega | (simp; omega) | simp) (ext_end s _)).mono ?_
                rintro e w1 ⟨rfl, rfl⟩
                go_wp2_with fail
                have R1 := Lib.hid (R0.out.keep (Gr.one W (.cells #[.int .i64 (n1 : Int), .int .i64 (n2 : Int)] 23)))
                have F1 := Lib.hid (Blk.made W (.int .i64 (n1 : Int)) (.int .i64 (n2 : Int)) 23)
                have GW1 := Lib.hid (GW.out.trans ((Gr.one W (.cells #[.int .i64 (n1 : Int), .int .i64 (n2 : Int)] 23)).below.mono GW.out.size))
                refine (TX.out _).mono ?_
                rintro e w7 ⟨rfl, hb⟩
                obtain ⟨s1, x1, y1, f1, e1⟩ := R1.out.below hb
                obtain ⟨s2, x2, y2, f2, e2⟩ := F1.out.below hb
                rw [hz0] at x2 y2
                clear f2 e2 s2
                have GW7 := Lib.hid (GW1.out.trans (hb.mono GW1.out.size))
                clear hb R1 F1 GW1
                go_wp2_with fail
                refine bodyPost_ret (v := .tuple #[.agg #[.int .i64 (n1 : Int), .int .i64 (n2 : Int)], .int .i64 0]) (by simp [results, Tryd.results25, go_sem, x1, y1]) rfl ⟨HA.out, ?_⟩
                exact put_below GW7.out (Nat.le_refl _)
              · rw [HNO.out true (Or.inr (Or.inr q2))] at HA
                obtain ⟨t1, t2, t3⟩ := ba_ne q2
                clear q2 HYE HNO
                go_wp2_with fail
                refine (C1.out _ _ (by first | omega | (simp; omega) | simp) (by rw [HN1.out]; first | (rw [ext_list]; simp; done) | (simp; done) | (rw [hk0]; rfl) | (rw [List.take_of_length_le (by simp)]; done) | (rw [ext_list, ext_list]; simp; done))).mono ?_
                rintro e w1 ⟨rfl, rfl⟩
                go_wp2_with fail
                refine (C2.out _ _ (by first | omega | (simp; omega) | simp) (ext_end s _)).mono ?_
                rintro e w1 ⟨rfl, rfl⟩
                go_wp2_with fail
                have R1 := Lib.hid (R0.out.keep (Gr.one W (.cells #[.int .i64 (n1 : Int), .int .i64 (n2 : Int)] 23)))
                have F1 := Lib.hid (Blk.made W (.int .i64 (n1 : Int)) (.int .i64 (n2 : Int)) 23)
                have GW1 := Lib.hid (GW.out.trans ((Gr.one W (.cells #[.int .i64 (n1 : Int), .int .i64 (n2 : Int)] 23)).below.mono GW.out.size))
                refine (TX.out _).mono ?_
                rintro e w7 ⟨rfl, hb⟩
                obtain ⟨s1, x1, y1, f1, e1⟩ := R1.out.below hb
                obtain ⟨s2, x2, y2, f2, e2⟩ := F1.out.below hb
                rw [hz0] at x2 y2
                clear f2 e2 s2
                have GW7 := Lib.hid (GW1.out.trans (hb.mono GW1.out.size))
                clear hb R1 F1 GW1
                go_wp2_with fail
                refine bodyPost_ret (v := .tuple #[.agg #[.int .i64 0, .int .i64 0], .int .i64 5]) (by simp [results, Tryd.results25, go_sem, x1, y1]) rfl ⟨HA.out, ?_⟩
                exact put_below GW7.out (Nat.le_refl _)
            · rw [HNO.out true (Or.inr (Or.inl q1))] at HA
              have t1 : (E != 0) = true := by rw [bne_iff_ne]; exact q1
              clear HYE HNO
              go_wp2_with fail
              refine (C1.out _ _ (by first | omega | (simp; omega) | simp) (by rw [HN1.out]; first | (rw [ext_list]; simp; done) | (simp; done) | (rw [hk0]; rfl) | (rw [List.take_of_length_le (by simp)]; done) | (rw [ext_list, ext_list]; simp; done))).mono ?_
              rintro e w1 ⟨rfl, rfl⟩
              go_wp2_with fail
              refine (C2.out _ _ (by first | omega | (simp; omega) | simp) (ext_end s _)).mono ?_
              rintro e w1 ⟨rfl, rfl⟩
              go_wp2_with fail
              have R1 := Lib.hid (R0.out.keep (Gr.one W (.cells #[.int .i64 (n1 : Int), .int .i64 (n2 : Int)] 23)))
              have F1 := Lib.hid (Blk.made W (.int .i64 (n1 : Int)) (.int .i64 (n2 : Int)) 23)
              have GW1 := Lib.hid (GW.out.trans ((Gr.one W (.cells #[.int .i64 (n1 : Int), .int .i64 (n2 : Int)] 23)).below.mono GW.out.size))
              refine (TX.out _).mono ?_
              rintro e w7 ⟨rfl, hb⟩
              obtain ⟨s1, x1, y1, f1, e1⟩ := R1.out.below hb
              obtain ⟨s2, x2, y2, f2, e2⟩ := F1.out.below hb
              rw [hz0] at x2 y2
              clear f2 e2 s2
              have GW7 := Lib.hid (GW1.out.trans (hb.mono GW1.out.size))
              clear hb R1 F1 GW1
              go_wp2_with fail
              refine bodyPost_ret (v := .tuple #[.agg #[.int .i64 0, .int .i64 0], .int .i64 5]) (by simp [results, Tryd.results25, go_sem, x1, y1]) rfl ⟨HA.out, ?_⟩
              exact put_below GW7.out (Nat.le_refl _)
        · have hk1 : 0 < k := by omega
          have hx : 0 < (s.extract 0 k).size := by simp; omega
          have fb := first_byte s k hx
          by_cases hf : (((s.extract 0 k)[0]'hx).toNat : Int) = 45
          · have b2 : ((((s.extract 0 k)[0]'hx).toNat : Int) == 45) = true := by rw [hf]; rfl
            have HD := fb.2 hf
            clear fb hf hk0
            have HN1 := Lib.hid (show rdN s.data.toList k = (s.data.toList.take k).tail from if_pos HD)
            have HS1 := Lib.hid (show rdS s.data.toList k = -(nmV (rdN s.data.toList k) : Int) from if_pos HD)
            have hn1 := nmV_le (rdN s.data.toList k)
            clear HD
            generalize he1 : nmV (rdN s.data.toList k) = n1 at *
            generalize hi1 : nmB (rdN s.data.toList k) = i1 at *
            have HE1 := Lib.hid he1
            have HI1 := Lib.hid hi1
            clear he1 hi1
            have C1 := Lib.hid (fun (t : ByteArray) (W : World) (hs : t.size ≤ 100) (ht : t.data.toList = rdN s.data.toList k) => number_eq W hs ht HE1.out HI1.out)
            have hn2 := nmV_le (s.data.toList.drop (k + 1))
            have HD2 := Lib.hid (show rdD s.data.toList k = (nmV (s.data.toList.drop (k + 1)) : Int) from if_pos (lt_len hlt))
            have HI := Lib.hid (show rdI s.data.toList k = (i1 && nmB (s.data.toList.drop (k + 1))) by unfold rdI; rw [HI1.out, show decide (¬ k < s.data.toList.length) = false from decide_eq_false (fun h => h (lt_len hlt)), Bool.false_or])
            generalize he2 : nmV (s.data.toList.drop (k + 1)) = n2 at *
            generalize hi2 : nmB (s.data.toList.drop (k + 1)) = i2 at *
            have HE2 := Lib.hid he2
            have HI2 := Lib.hid hi2
            clear he2 hi2
            have C2 := Lib.hid (fun (t : ByteArray) (W : World) (hs : t.size ≤ 100) (ht : t.data.toList = s.data.toList.drop (k + 1)) => number_eq W hs ht HE2.out HI2.out)
            obtain ⟨is, his⟩ : ∃ is, (i1 && i2) = is := ⟨_, rfl⟩
            have HA := Lib.hid (HQ.out k (by omega) HK.out (fun _ => hc))
            rw [HI.out, HS1.out, HD2.out] at HA
            clear HQ HS1 HD2 HI HK hc
            have TX := Lib.hid (fun W => rtext_any (-(n1 : Int)) (n2 : Int) W (by omega) (by omega) (by omega) (by omega))
            have HNO := Lib.hid (fun i h => ans_no (l := s.data.toList) (i := i) (v1 := (-(n1 : Int))) (v2 := (n2 : Int)) h)
            have HYE := Lib.hid (fun h h' => ans_yes (l := s.data.toList) (v1 := (-(n1 : Int))) (v2 := (n2 : Int)) h h')
            generalize rtT (-(n1 : Int)) (n2 : Int) = T at *
            generalize rtE (-(n1 : Int)) (n2 : Int) = E at *
            rw [his] at HA
            cases i1 <;> cases i2 <;> simp only [Bool.and_true, Bool.and_false, Bool.and_self] at his <;> subst his
            · rw [HNO.out false (Or.inl rfl)] at HA
              clear HYE HNO
              go_wp2_with fail
              refine (C1.out _ _ (by first | omega | (simp; omega) | simp) (by rw [HN1.out, ← List.drop_one]; first | (rw [ext_list]; done) | (rw [ext_list, ext_list]; simp; done) | (rw [ext_list, ext_list]; simp [List.take_take]; done))).mono ?_
              rintro e w1 ⟨rfl, rfl⟩
              go_wp2_with fail
              refine (C2.out _ _ (by first | omega | (simp; omega) | simp) (ext_end s _)).mono ?_
              rintro e w1 ⟨rfl, rfl⟩
              go_wp2_with fail
              have R1 := Lib.hid (R0.out.keep (Gr.one W (.cells #[.int .i64 (-(n1 : Int)), .int .i64 (n2 : Int)] 23)))
              have F1 := Lib.hid (Blk.made W (.int .i64 (-(n1 : Int))) (.int .i64 (n2 : Int)) 23)
              have GW1 := Lib.hid (GW.out.trans ((Gr.one W (.cells #[.int .i64 (-(n1 : Int)), .int .i64 (n2 : Int)] 23)).below.mono GW.out.size))
              refine (TX.out _).mono ?_
              rintro e w7 ⟨rfl, hb⟩
              obtain ⟨s1, x1, y1, f1, e1⟩ := R1.out.below hb
              obtain ⟨s2, x2, y2, f2, e2⟩ := F1.out.below hb
              rw [hz0] at x2 y2
              clear f2 e2 s2
              have GW7 := Lib.hid (GW1.out.trans (hb.mono GW1.out.size))
              clear hb R1 F1 GW1
              go_wp2_with fail
              refine bodyPost_ret (v := .tuple #[.agg #[.int .i64 0, .int .i64 0], .int .i64 5]) (by simp [results, Tryd.results25, go_sem, x1, y1]) rfl ⟨HA.out, ?_⟩
              exact put_below GW7.out (Nat.le_refl _)
            · rw [HNO.out false (Or.inl rfl)] at HA
              clear HYE HNO
              go_wp2_with fail
              refine (C1.out _ _ (by first | omega | (simp; omega) | simp) (by rw [HN1.out, ← List.drop_one]; first | (rw [ext_list]; done) | (rw [ext_list, ext_list]; simp; done) | (rw [ext_list, ext_list]; simp [List.take_take]; done))).mono ?_
              rintro e w1 ⟨rfl, rfl⟩
              go_wp2_with fail
              refine (C2.out _ _ (by first | omega | (simp; omega) | simp) (ext_end s _)).mono ?_
              rintro e w1 ⟨rfl, rfl⟩
              go_wp2_with fail
              have R1 := Lib.hid (R0.out.keep (Gr.one W (.cells #[.int .i64 (-(n1 : Int)), .int .i64 (n2 : Int)] 23)))
              have F1 := Lib.hid (Blk.made W (.int .i64 (-(n1 : Int))) (.int .i64 (n2 : Int)) 23)
              have GW1 := Lib.hid (GW.out.trans ((Gr.one W (.cells #[.int .i64 (-(n1 : Int)), .int .i64 (n2 : Int)] 23)).below.mono GW.out.size))
              refine (TX.out _).mono ?_
              rintro e w7 ⟨rfl, hb⟩
              obtain ⟨s1, x1, y1, f1, e1⟩ := R1.out.below hb
              obtain ⟨s2, x2, y2, f2, e2⟩ := F1.out.below hb
              rw [hz0] at x2 y2
              clear f2 e2 s2
              have GW7 := Lib.hid (GW1.out.trans (hb.mono GW1.out.size))
              clear hb R1 F1 GW1
              go_wp2_with fail
              refine bodyPost_ret (v := .tuple #[.agg #[.int .i64 0, .int .i64 0], .int .i64 5]) (by simp [results, Tryd.results25, go_sem, x1, y1]) rfl ⟨HA.out, ?_⟩
              exact put_below GW7.out (Nat.le_refl _)
            · rw [HNO.out false (Or.inl rfl)] at HA
              clear HYE HNO
              go_wp2_with fail
              refine (C1.out _ _ (by first | omega | (simp; omega) | simp) (by rw [HN1.out, ← List.drop_one]; first | (rw [ext_list]; done) | (rw [ext_list, ext_list]; simp; done) | (rw [ext_list, ext_list]; simp [List.take_take]; done))).mono ?_
              rintro e w1 ⟨rfl, rfl⟩
              go_wp2_with fail
              refine (C2.out _ _ (by first | omega | (simp; omega) | simp) (ext_end s _)).mono ?_
              rintro e w1 ⟨rfl, rfl⟩
              go_wp2_with fail
              have R1 := Lib.hid (R0.out.keep (Gr.one W (.cells #[.int .i64 (-(n1 : Int)), .int .i64 (n2 : Int)] 23)))
              have F1 := Lib.hid (Blk.made W (.int .i64 (-(n1 : Int))) (.int .i64 (n2 : Int)) 23)
              have GW1 := Lib.hid (GW.out.trans ((Gr.one W (.cells #[.int .i64 (-(n1 : Int)), .int .i64 (n2 : Int)] 23)).below.mono GW.out.size))
              refine (TX.out _).mono ?_
              rintro e w7 ⟨rfl, hb⟩
              obtain ⟨s1, x1, y1, f1, e1⟩ := R1.out.below hb
              obtain ⟨s2, x2, y2, f2, e2⟩ := F1.out.below hb
              rw [hz0] at x2 y2
              clear f2 e2 s2
              have GW7 := Lib.hid (GW1.out.trans (hb.mono GW1.out.size))
              clear hb R1 F1 GW1
              go_wp2_with fail
              refine bodyPost_ret (v := .tuple #[.agg #[.int .i64 0, .int .i64 0], .int .i64 5]) (by simp [results, Tryd.results25, go_sem, x1, y1]) rfl ⟨HA.out, ?_⟩
              exact put_below GW7.out (Nat.le_refl _)
            · by_cases q1 : E = 0
              · subst q1
                by_cases q2 : T.data.toList = s.data.toList
                · rw [HYE.out rfl q2] at HA
                  obtain rfl : s = T := (ByteArray.ext (Array.toList_inj.1 q2)).symm
                  clear q2 HYE HNO
                  go_wp2_with fail
                  refine (C1.out _ _ (by first | omega | (simp; omega) | simp) (by rw [HN1.out, ← List.drop_one]; first | (rw [ext_list]; done) | (rw [ext_list, ext_list]; simp; done) | (rw [ext_list, ext_list]; simp [List.take_take]; done))).mono ?_
                  rintro e w1 ⟨rfl, rfl⟩
                  go_wp2_with fail
                  refine (C2.out _ _ (by first | omega | (simp; omega) | simp) (ext_end s _)).mono ?_
                  rintro e w1 ⟨rfl, rfl⟩
                  go_wp2_with fail
                  have R1 := Lib.hid (R0.out.keep (Gr.one W (.cells #[.int .i64 (-(n1 : Int)), .int .i64 (n2 : Int)] 23)))
                  have F1 := Lib.hid (Blk.made W (.int .i64 (-(n1 : Int))) (.int .i64 (n2 : Int)) 23)
                  have GW1 := Lib.hid (GW.out.trans ((Gr.one W (.cells #[.int .i64 (-(n1 : Int)), .int .i64 (n2 : Int)] 23)).below.mono GW.out.size))
                  refine (TX.out _).mono ?_
                  rintro e w7 ⟨rfl, hb⟩
                  obtain ⟨s1, x1, y1, f1, e1⟩ := R1.out.below hb
                  obtain ⟨s2, x2, y2, f2, e2⟩ := F1.out.below hb
                  rw [hz0] at x2 y2
                  clear f2 e2 s2
                  have GW7 := Lib.hid (GW1.out.trans (hb.mono GW1.out.size))
                  clear hb R1 F1 GW1
                  go_wp2_with fail
                  refine bodyPost_ret (v := .tuple #[.agg #[.int .i64 (-(n1 : Int)), .int .i64 (n2 : Int)], .int .i64 0]) (by simp [results, Tryd.results25, go_sem, x1, y1]) rfl ⟨HA.out, ?_⟩
                  exact put_below GW7.out (Nat.le_refl _)
                · rw [HNO.out true (Or.inr (Or.inr q2))] at HA
                  obtain ⟨t1, t2, t3⟩ := ba_ne q2
                  clear q2 HYE HNO
                  go_wp2_with fail
                  refine (C1.out _ _ (by first | omega | (simp; omega) | simp) (by rw [HN1.out, ← List.drop_one]; first | (rw [ext_list]; done) | (rw [ext_list, ext_list]; simp; done) | (rw [ext_list, ext_list]; simp [List.take_take]; done))).mono ?_
                  rintro e w1 ⟨rfl, rfl⟩
                  go_wp2_with fail
                  refine (C2.out _ _ (by first | omega | (simp; omega) | simp) (ext_end s _)).mono ?_
                  rintro e w1 ⟨rfl, rfl⟩
                  go_wp2_with fail
                  have R1 := Lib.hid (R0.out.keep (Gr.one W (.cells #[.int .i64 (-(n1 : Int)), .int .i64 (n2 : Int)] 23)))
                  have F1 := Lib.hid (Blk.made W (.int .i64 (-(n1 : Int))) (.int .i64 (n2 : Int)) 23)
                  have GW1 := Lib.hid (GW.out.trans ((Gr.one W (.cells #[.int .i64 (-(n1 : Int)), .int .i64 (n2 : Int)] 23)).below.mono GW.out.size))
                  refine (TX.out _).mono ?_
                  rintro e w7 ⟨rfl, hb⟩
                  obtain ⟨s1, x1, y1, f1, e1⟩ := R1.out.below hb
                  obtain ⟨s2, x2, y2, f2, e2⟩ := F1.out.below hb
                  rw [hz0] at x2 y2
                  clear f2 e2 s2
                  have GW7 := Lib.hid (GW1.out.trans (hb.mono GW1.out.size))
                  clear hb R1 F1 GW1
                  go_wp2_with fail
                  refine bodyPost_ret (v := .tuple #[.agg #[.int .i64 0, .int .i64 0], .int .i64 5]) (by simp [results, Tryd.results25, go_sem, x1, y1]) rfl ⟨HA.out, ?_⟩
                  exact put_below GW7.out (Nat.le_refl _)
              · rw [HNO.out true (Or.inr (Or.inl q1))] at HA
                have t1 : (E != 0) = true := by rw [bne_iff_ne]; exact q1
                clear HYE HNO
                go_wp2_with fail
                refine (C1.out _ _ (by first | omega | (simp; omega) | simp) (by rw [HN1.out, ← List.drop_one]; first | (rw [ext_list]; done) | (rw [ext_list, ext_list]; simp; done) | (rw [ext_list, ext_list]; simp [List.take_take]; done))).mono ?_
                rintro e w1 ⟨rfl, rfl⟩
                go_wp2_with fail
                refine (C2.out _ _ (by first | omega | (simp; omega) | simp) (ext_end s _)).mono ?_
                rintro e w1 ⟨rfl, rfl⟩
                go_wp2_with fail
                have R1 := Lib.hid (R0.out.keep (Gr.one W (.cells #[.int .i64 (-(n1 : Int)), .int .i64 (n2 : Int)] 23)))
                have F1 := Lib.hid (Blk.made W (.int .i64 (-(n1 : Int))) (.int .i64 (n2 : Int)) 23)
                have GW1 := Lib.hid (GW.out.trans ((Gr.one W (.cells #[.int .i64 (-(n1 : Int)), .int .i64 (n2 : Int)] 23)).below.mono GW.out.size))
                refine (TX.out _).mono ?_
                rintro e w7 ⟨rfl, hb⟩
                obtain ⟨s1, x1, y1, f1, e1⟩ := R1.out.below hb
                obtain ⟨s2, x2, y2, f2, e2⟩ := F1.out.below hb
                rw [hz0] at x2 y2
                clear f2 e2 s2
                have GW7 := Lib.hid (GW1.out.trans (hb.mono GW1.out.size))
                clear hb R1 F1 GW1
                go_wp2_with fail
                refine bodyPost_ret (v := .tuple #[.agg #[.int .i64 0, .int .i64 0], .int .i64 5]) (by simp [results, Tryd.results25, go_sem, x1, y1]) rfl ⟨HA.out, ?_⟩
                exact put_below GW7.out (Nat.le_refl _)
          · have b2 : ((((s.extract 0 k)[0]'hx).toNat : Int) == 45) = false := by rw [beq_eq_false_iff_ne]; exact hf
            have HD : ¬ ((s.data.toList.take k).head? = some 45) := fun e => hf (fb.1 e)
            clear fb hf hk0
            have HN1 := Lib.hid (show rdN s.data.toList k = s.data.toList.take k from if_neg HD)
            have HS1 := Lib.hid (show rdS s.data.toList k = (nmV (rdN s.data.toList k) : Int) from if_neg HD)
            have hn1 := nmV_le (rdN s.data.toList k)
            clear HD
            generalize he1 : nmV (rdN s.data.toList k) = n1 at *
            generalize hi1 : nmB (rdN s.data.toList k) = i1 at *
            have HE1 := Lib.hid he1
            have HI1 := Lib.hid hi1
            clear he1 hi1
            have C1 := Lib.hid (fun (t : ByteArray) (W : World) (hs : t.size ≤ 100) (ht : t.data.toList = rdN s.data.toList k) => number_eq W hs ht HE1.out HI1.out)
            have hn2 := nmV_le (s.data.toList.drop (k + 1))
            have HD2 := Lib.hid (show rdD s.data.toList k = (nmV (s.data.toList.drop (k + 1)) : Int) from if_pos (lt_len hlt))
            have HI := Lib.hid (show rdI s.data.toList k = (i1 && nmB (s.data.toList.drop (k + 1))) by unfold rdI; rw [HI1.out, show decide (¬ k < s.data.toList.length) = false from decide_eq_false (fun h => h (lt_len hlt)), Bool.false_or])
            generalize he2 : nmV (s.data.toList.drop (k + 1)) = n2 at *
            generalize hi2 : nmB (s.data.toList.drop (k + 1)) = i2 at *
            have HE2 := Lib.hid he2
            have HI2 := Lib.hid hi2
            clear he2 hi2
            have C2 := Lib.hid (fun (t : ByteArray) (W : World) (hs : t.size ≤ 100) (ht : t.data.toList = s.data.toList.drop (k + 1)) => number_eq W hs ht HE2.out HI2.out)
            obtain ⟨is, his⟩ : ∃ is, (i1 && i2) = is := ⟨_, rfl⟩
            have HA := Lib.hid (HQ.out k (by omega) HK.out (fun _ => hc))
            rw [HI.out, HS1.out, HD2.out] at HA
            clear HQ HS1 HD2 HI HK hc
            have TX := Lib.hid (fun W => rtext_any (n1 : Int) (n2 : Int) W (by omega) (by omega) (by omega) (by omega))
            have HNO := Lib.hid (fun i h => ans_no (l := s.data.toList) (i := i) (v1 := (n1 : Int)) (v2 := (n2 : Int)) h)
            have HYE := Lib.hid (fun h h' => ans_yes (l := s.data.toList) (v1 := (n1 : Int)) (v2 := (n2 : Int)) h h')
            generalize rtT (n1 : Int) (n2 : Int) = T at *
            generalize rtE (n1 : Int) (n2 : Int) = E at *
            rw [his] at HA
            cases i1 <;> cases i2 <;> simp only [Bool.and_true, Bool.and_false, Bool.and_self] at his <;> subst his
            · rw [HNO.out false (Or.inl rfl)] at HA
              clear HYE HNO
              go_wp2_with fail
              refine (C1.out _ _ (by first | omega | (simp; omega) | simp) (by rw [HN1.out]; first | (rw [ext_list]; simp; done) | (simp; done) | (rw [hk0]; rfl) | (rw [List.take_of_length_le (by simp)]; done) | (rw [ext_list, ext_list]; simp; done))).mono ?_
              rintro e w1 ⟨rfl, rfl⟩
              go_wp2_with fail
              refine (C2.out _ _ (by first | omega | (simp; omega) | simp) (ext_end s _)).mono ?_
              rintro e w1 ⟨rfl, rfl⟩
              go_wp2_with fail
              have R1 := Lib.hid (R0.out.keep (Gr.one W (.cells #[.int .i64 (n1 : Int), .int .i64 (n2 : Int)] 23)))
              have F1 := Lib.hid (Blk.made W (.int .i64 (n1 : Int)) (.int .i64 (n2 : Int)) 23)
              have GW1 := Lib.hid (GW.out.trans ((Gr.one W (.cells #[.int .i64 (n1 : Int), .int .i64 (n2 : Int)] 23)).below.mono GW.out.size))
              refine (TX.out _).mono ?_
              rintro e w7 ⟨rfl, hb⟩
              obtain ⟨s1, x1, y1, f1, e1⟩ := R1.out.below hb
              obtain ⟨s2, x2, y2, f2, e2⟩ := F1.out.below hb
              rw [hz0] at x2 y2
              clear f2 e2 s2
              have GW7 := Lib.hid (GW1.out.trans (hb.mono GW1.out.size))
              clear hb R1 F1 GW1
              go_wp2_with fail
              refine bodyPost_ret (v := .tuple #[.agg #[.int .i64 0, .int .i64 0], .int .i64 5]) (by simp [results, Tryd.results25, go_sem, x1, y1]) rfl ⟨HA.out, ?_⟩
              exact put_below GW7.out (Nat.le_refl _)
            · rw [HNO.out false (Or.inl rfl)] at HA
              clear HYE HNO
              go_wp2_with fail
              refine (C1.out _ _ (by first | omega | (simp; omega) | simp) (by rw [HN1.out]; first | (rw [ext_list]; simp; done) | (simp; done) | (rw [hk0]; rfl) | (rw [List.take_of_length_le (by simp)]; done) | (rw [ext_list, ext_list]; simp; done))).mono ?_
              rintro e w1 ⟨rfl, rfl⟩
              go_wp2_with fail
              refine (C2.out _ _ (by first | omega | (simp; omega) | simp) (ext_end s _)).mono ?_
              rintro e w1 ⟨rfl, rfl⟩
              go_wp2_with fail
              have R1 := Lib.hid (R0.out.keep (Gr.one W (.cells #[.int .i64 (n1 : Int), .int .i64 (n2 : Int)] 23)))
              have F1 := Lib.hid (Blk.made W (.int .i64 (n1 : Int)) (.int .i64 (n2 : Int)) 23)
              have GW1 := Lib.hid (GW.out.trans ((Gr.one W (.cells #[.int .i64 (n1 : Int), .int .i64 (n2 : Int)] 23)).below.mono GW.out.size))
              refine (TX.out _).mono ?_
              rintro e w7 ⟨rfl, hb⟩
              obtain ⟨s1, x1, y1, f1, e1⟩ := R1.out.below hb
              obtain ⟨s2, x2, y2, f2, e2⟩ := F1.out.below hb
              rw [hz0] at x2 y2
              clear f2 e2 s2
              have GW7 := Lib.hid (GW1.out.trans (hb.mono GW1.out.size))
              clear hb R1 F1 GW1
              go_wp2_with fail
              refine bodyPost_ret (v := .tuple #[.agg #[.int .i64 0, .int .i64 0], .int .i64 5]) (by simp [results, Tryd.results25, go_sem, x1, y1]) rfl ⟨HA.out, ?_⟩
              exact put_below GW7.out (Nat.le_refl _)
            · rw [HNO.out false (Or.inl rfl)] at HA
              clear HYE HNO
              go_wp2_with fail
              refine (C1.out _ _ (by first | omega | (simp; omega) | simp) (by rw [HN1.out]; first | (rw [ext_list]; simp; done) | (simp; done) | (rw [hk0]; rfl) | (rw [List.take_of_length_le (by simp)]; done) | (rw [ext_list, ext_list]; simp; done))).mono ?_
              rintro e w1 ⟨rfl, rfl⟩
              go_wp2_with fail
              refine (C2.out _ _ (by first | omega | (simp; omega) | simp) (ext_end s _)).mono ?_
              rintro e w1 ⟨rfl, rfl⟩
              go_wp2_with fail
              have R1 := Lib.hid (R0.out.keep (Gr.one W (.cells #[.int .i64 (n1 : Int), .int .i64 (n2 : Int)] 23)))
              have F1 := Lib.hid (Blk.made W (.int .i64 (n1 : Int)) (.int .i64 (n2 : Int)) 23)
              have GW1 := Lib.hid (GW.out.trans ((Gr.one W (.cells #[.int .i64 (n1 : Int), .int .i64 (n2 : Int)] 23)).below.mono GW.out.size))
              refine (TX.out _).mono ?_
              rintro e w7 ⟨rfl, hb⟩
              obtain ⟨s1, x1, y1, f1, e1⟩ := R1.out.below hb
              obtain ⟨s2, x2, y2, f2, e2⟩ := F1.out.below hb
              rw [hz0] at x2 y2
              clear f2 e2 s2
              have GW7 := Lib.hid (GW1.out.trans (hb.mono GW1.out.size))
              clear hb R1 F1 GW1
              go_wp2_with fail
              refine bodyPost_ret (v := .tuple #[.agg #[.int .i64 0, .int .i64 0], .int .i64 5]) (by simp [results, Tryd.results25, go_sem, x1, y1]) rfl ⟨HA.out, ?_⟩
              exact put_below GW7.out (Nat.le_refl _)
            · by_cases q1 : E = 0
              · subst q1
                by_cases q2 : T.data.toList = s.data.toList
                · rw [HYE.out rfl q2] at HA
                  obtain rfl : s = T := (ByteArray.ext (Array.toList_inj.1 q2)).symm
                  clear q2 HYE HNO
                  go_wp2_with fail
                  refine (C1.out _ _ (by first | omega | (simp; omega) | simp) (by rw [HN1.out]; first | (rw [ext_list]; simp; done) | (simp; done) | (rw [hk0]; rfl) | (rw [List.take_of_length_le (by simp)]; done) | (rw [ext_list, ext_list]; simp; done))).mono ?_
                  rintro e w1 ⟨rfl, rfl⟩
                  go_wp2_with fail
                  refine (C2.out _ _ (by first | omega | (simp; omega) | simp) (ext_end s _)).mono ?_
                  rintro e w1 ⟨rfl, rfl⟩
                  go_wp2_with fail
                  have R1 := Lib.hid (R0.out.keep (Gr.one W (.cells #[.int .i64 (n1 : Int), .int .i64 (n2 : Int)] 23)))
                  have F1 := Lib.hid (Blk.made W (.int .i64 (n1 : Int)) (.int .i64 (n2 : Int)) 23)
                  have GW1 := Lib.hid (GW.out.trans ((Gr.one W (.cells #[.int .i64 (n1 : Int), .int .i64 (n2 : Int)] 23)).below.mono GW.out.size))
                  refine (TX.out _).mono ?_
                  rintro e w7 ⟨rfl, hb⟩
                  obtain ⟨s1, x1, y1, f1, e1⟩ := R1.out.below hb
                  obtain ⟨s2, x2, y2, f2, e2⟩ := F1.out.below hb
                  rw [hz0] at x2 y2
                  clear f2 e2 s2
                  have GW7 := Lib.hid (GW1.out.trans (hb.mono GW1.out.size))
                  clear hb R1 F1 GW1
                  go_wp2_with fail
                  refine bodyPost_ret (v := .tuple #[.agg #[.int .i64 (n1 : Int), .int .i64 (n2 : Int)], .int .i64 0]) (by simp [results, Tryd.results25, go_sem, x1, y1]) rfl ⟨HA.out, ?_⟩
                  exact put_below GW7.out (Nat.le_refl _)
                · rw [HNO.out true (Or.inr (Or.inr q2))] at HA
                  obtain ⟨t1, t2, t3⟩ := ba_ne q2
                  clear q2 HYE HNO
                  go_wp2_with fail
                  refine (C1.out _ _ (by first | omega | (simp; omega) | simp) (by rw [HN1.out]; first | (rw [ext_list]; simp; done) | (simp; done) | (rw [hk0]; rfl) | (rw [List.take_of_length_le (by simp)]; done) | (rw [ext_list, ext_list]; simp; done))).mono ?_
                  rintro e w1 ⟨rfl, rfl⟩
                  go_wp2_with fail
                  refine (C2.out _ _ (by first | omega | (simp; omega) | simp) (ext_end s _)).mono ?_
                  rintro e w1 ⟨rfl, rfl⟩
                  go_wp2_with fail
                  have R1 := Lib.hid (R0.out.keep (Gr.one W (.cells #[.int .i64 (n1 : Int), .int .i64 (n2 : Int)] 23)))
                  have F1 := Lib.hid (Blk.made W (.int .i64 (n1 : Int)) (.int .i64 (n2 : Int)) 23)
                  have GW1 := Lib.hid (GW.out.trans ((Gr.one W (.cells #[.int .i64 (n1 : Int), .int .i64 (n2 : Int)] 23)).below.mono GW.out.size))
                  refine (TX.out _).mono ?_
                  rintro e w7 ⟨rfl, hb⟩
                  obtain ⟨s1, x1, y1, f1, e1⟩ := R1.out.below hb
                  obtain ⟨s2, x2, y2, f2, e2⟩ := F1.out.below hb
                  rw [hz0] at x2 y2
                  clear f2 e2 s2
                  have GW7 := Lib.hid (GW1.out.trans (hb.mono GW1.out.size))
                  clear hb R1 F1 GW1
                  go_wp2_with fail
                  refine bodyPost_ret (v := .tuple #[.agg #[.int .i64 0, .int .i64 0], .int .i64 5]) (by simp [results, Tryd.results25, go_sem, x1, y1]) rfl ⟨HA.out, ?_⟩
                  exact put_below GW7.out (Nat.le_refl _)
              · rw [HNO.out true (Or.inr (Or.inl q1))] at HA
                have t1 : (E != 0) = true := by rw [bne_iff_ne]; exact q1
                clear HYE HNO
                go_wp2_with fail
                refine (C1.out _ _ (by first | omega | (simp; omega) | simp) (by rw [HN1.out]; first | (rw [ext_list]; simp; done) | (simp; done) | (rw [hk0]; rfl) | (rw [List.take_of_length_le (by simp)]; done) | (rw [ext_list, ext_list]; simp; done))).mono ?_
                rintro e w1 ⟨rfl, rfl⟩
                go_wp2_with fail
                refine (C2.out _ _ (by first | omega | (simp; omega) | simp) (ext_end s _)).mono ?_
                rintro e w1 ⟨rfl, rfl⟩
                go_wp2_with fail
                have R1 := Lib.hid (R0.out.keep (Gr.one W (.cells #[.int .i64 (n1 : Int), .int .i64 (n2 : Int)] 23)))
                have F1 := Lib.hid (Blk.made W (.int .i64 (n1 : Int)) (.int .i64 (n2 : Int)) 23)
                have GW1 := Lib.hid (GW.out.trans ((Gr.one W (.cells #[.int .i64 (n1 : Int), .int .i64 (n2 : Int)] 23)).below.mono GW.out.size))
                refine (TX.out _).mono ?_
                rintro e w7 ⟨rfl, hb⟩
                obtain ⟨s1, x1, y1, f1, e1⟩ := R1.out.below hb
                obtain ⟨s2, x2, y2, f2, e2⟩ := F1.out.below hb
                rw [hz0] at x2 y2
                clear f2 e2 s2
                have GW7 := Lib.hid (GW1.out.trans (hb.mono GW1.out.size))
                clear hb R1 F1 GW1
                go_wp2_with fail
                refine bodyPost_ret (v := .tuple #[.agg #[.int .i64 0, .int .i64 0], .int .i64 5]) (by simp [results, Tryd.results25, go_sem, x1, y1]) rfl ⟨HA.out, ?_⟩
                exact put_below GW7.out (Nat.le_refl _)
      · have b1 : ((s[k].toNat : Int) != 47) = true := by
          rw [bne_iff_ne]
          intro e
          apply hc
          apply UInt8.toNat_inj.1
          show s[k].toNat = 47
          omega
        have HK' := Lib.hid (show ∀ j (hj : j < s.size), j < k + 1 → s[j] ≠ 47 from fun j hj h => by
          rcases Nat.lt_or_ge j k with c | c
          · exact HK.out j hj c
          · obtain rfl : j = k := by omega
            exact hc)
        clear hc HK
        go_wp2_with fail
        go_round
        case rel => exact ⟨k + 1, by omega, by go_num, HK'⟩
        case measure => simp [intOf]; omega
    · obtain rfl : k = s.size := by omega
      by_cases hk0 : s.size = 0
      · have HD : ¬ ((s.data.toList.take s.size).head? = some 45) := by rw [hk0]; simp
        have HN1 := Lib.hid (show rdN s.data.toList s.size = s.data.toList.take s.size from if_neg HD)
        have HS1 := Lib.hid (show rdS s.data.toList s.size = (nmV (rdN s.data.toList s.size) : Int) from if_neg HD)
        have hn1 := nmV_le (rdN s.data.toList s.size)
        clear HD
        generalize he1 : nmV (rdN s.data.toList s.size) = n1 at *
        generalize hi1 : nmB (rdN s.data.toList s.size) = i1 at *
        have HE1 := Lib.hid he1
        have HI1 := Lib.hid hi1
        clear he1 hi1
        have C1 := Lib.hid (fun (t : ByteArray) (W : World) (hs : t.size ≤ 100) (ht : t.data.toList = rdN s.data.toList s.size) => number_eq W hs ht HE1.out HI1.out)
        have HD2 := Lib.hid (show rdD s.data.toList s.size = 1 from if_neg (by simp))
        have HI := Lib.hid (show rdI s.data.toList s.size = i1 by unfold rdI; rw [HI1.out]; simp)
        have HA := Lib.hid (HQ.out s.size (by omega) HK.out (fun h => by omega))
        rw [HI.out, HS1.out, HD2.out] at HA
        clear HQ HS1 HD2 HI HK
        have TX := Lib.hid (fun W => rtext_any (n1 : Int) (1 : Int) W (by omega) (by omega) (by omega) (by omega))
        have HNO := Lib.hid (fun i h => ans_no (l := s.data.toList) (i := i) (v1 := (n1 : Int)) (v2 := (1 : Int)) h)
        have HYE := Lib.hid (fun h h' => ans_yes (l := s.data.toList) (v1 := (n1 : Int)) (v2 := (1 : Int)) h h')
        generalize rtT (n1 : Int) (1 : Int) = T at *
        generalize rtE (n1 : Int) (1 : Int) = E at *
        cases i1
        · rw [HNO.out false (Or.inl rfl)] at HA
          clear HYE HNO
          go_wp2_with fail
          refine (C1.out _ _ (by first | omega | (simp; omega) | simp) (by rw [HN1.out]; first | (rw [ext_list]; simp; done) | (simp; done) | (rw [hk0]; rfl) | (rw [List.take_of_length_le (by simp)]; done) | (rw [ext_list, ext_list]; simp; done))).mono ?_
          rintro e w1 ⟨rfl, rfl⟩
          go_wp2_with fail
          have R1 := Lib.hid (R0.out.keep (Gr.one W (.cells #[.int .i64 (n1 : Int), .int .i64 (1 : Int)] 23)))
          have F1 := Lib.hid (Blk.made W (.int .i64 (n1 : Int)) (.int .i64 (1 : Int)) 23)
          have GW1 := Lib.hid (GW.out.trans ((Gr.one W (.cells #[.int .i64 (n1 : Int), .int .i64 (1 : Int)] 23)).below.mono GW.out.size))
          refine (TX.out _).mono ?_
          rintro e w7 ⟨rfl, hb⟩
          obtain ⟨s1, x1, y1, f1, e1⟩ := R1.out.below hb
          obtain ⟨s2, x2, y2, f2, e2⟩ := F1.out.below hb
          rw [hz0] at x2 y2
          clear f2 e2 s2
          have GW7 := Lib.hid (GW1.out.trans (hb.mono GW1.out.size))
          clear hb R1 F1 GW1
          go_wp2_with fail
          refine bodyPost_ret (v := .tuple #[.agg #[.int .i64 0, .int .i64 0], .int .i64 5]) (by simp [results, Tryd.results25, go_sem, x1, y1]) rfl ⟨HA.out, ?_⟩
          exact put_below GW7.out (Nat.le_refl _)
        · by_cases q1 : E = 0
          · subst q1
            by_cases q2 : T.data.toList = s.data.toList
            · rw [HYE.out rfl q2] at HA
              obtain rfl : s = T := (ByteArray.ext (Array.toList_inj.1 q2)).symm
              clear q2 HYE HNO
              go_wp2_with fail
              refine (C1.out _ _ (by first | omega | (simp; omega) | simp) (by rw [HN1.out]; first | (rw [ext_list]; simp; done) | (simp; done) | (rw [hk0]; rfl) | (rw [List.take_of_length_le (by simp)]; done) | (rw [ext_list, ext_list]; simp; done))).mono ?_
              rintro e w1 ⟨rfl, rfl⟩
              go_wp2_with fail
              have R1 := Lib.hid (R0.out.keep (Gr.one W (.cells #[.int .i64 (n1 : Int), .int .i64 (1 : Int)] 23)))
              have F1 := Lib.hid (Blk.made W (.int .i64 (n1 : Int)) (.int .i64 (1 : Int)) 23)
              have GW1 := Lib.hid (GW.out.trans ((Gr.one W (.cells #[.int .i64 (n1 : Int), .int .i64 (1 : Int)] 23)).below.mono GW.out.size))
              refine (TX.out _).mono ?_
              rintro e w7 ⟨rfl, hb⟩
              obtain ⟨s1, x1, y1, f1, e1⟩ := R1.out.below hb
              obtain ⟨s2, x2, y2, f2, e2⟩ := F1.out.below hb
              rw [hz0] at x2 y2
              clear f2 e2 s2
              have GW7 := Lib.hid (GW1.out.trans (hb.mono GW1.out.size))
              clear hb R1 F1 GW1
              go_wp2_with fail
              refine bodyPost_ret (v := .tuple #[.agg #[.int .i64 (n1 : Int), .int .i64 (1 : Int)], .int .i64 0]) (by simp [results, Tryd.results25, go_sem, x1, y1]) rfl ⟨HA.out, ?_⟩
              exact put_below GW7.out (Nat.le_refl _)
            · rw [HNO.out true (Or.inr (Or.inr q2))] at HA
              obtain ⟨t1, t2, t3⟩ := ba_ne q2
              clear q2 HYE HNO
              go_wp2_with fail
              refine (C1.out _ _ (by first | omega | (simp; omega) | simp) (by rw [HN1.out]; first | (rw [ext_list]; simp; done) | (simp; done) | (rw [hk0]; rfl) | (rw [List.take_of_length_le (by simp)]; done) | (rw [ext_list, ext_list]; simp; done))).mono ?_
              rintro e w1 ⟨rfl, rfl⟩
              go_wp2_with fail
              have R1 := Lib.hid (R0.out.keep (Gr.one W (.cells #[.int .i64 (n1 : Int), .int .i64 (1 : Int)] 23)))
              have F1 := Lib.hid (Blk.made W (.int .i64 (n1 : Int)) (.int .i64 (1 : Int)) 23)
              have GW1 := Lib.hid (GW.out.trans ((Gr.one W (.cells #[.int .i64 (n1 : Int), .int .i64 (1 : Int)] 23)).below.mono GW.out.size))
              refine (TX.out _).mono ?_
              rintro e w7 ⟨rfl, hb⟩
              obtain ⟨s1, x1, y1, f1, e1⟩ := R1.out.below hb
              obtain ⟨s2, x2, y2, f2, e2⟩ := F1.out.below hb
              rw [hz0] at x2 y2
              clear f2 e2 s2
              have GW7 := Lib.hid (GW1.out.trans (hb.mono GW1.out.size))
              clear hb R1 F1 GW1
              go_wp2_with fail
              refine bodyPost_ret (v := .tuple #[.agg #[.int .i64 0, .int .i64 0], .int .i64 5]) (by simp [results, Tryd.results25, go_sem, x1, y1]) rfl ⟨HA.out, ?_⟩
              exact put_below GW7.out (Nat.le_refl _)
          · rw [HNO.out true (Or.inr (Or.inl q1))] at HA
            have t1 : (E != 0) = true := by rw [bne_iff_ne]; exact q1
            clear HYE HNO
            go_wp2_with fail
            refine (C1.out _ _ (by first | omega | (simp; omega) | simp) (by rw [HN1.out]; first | (rw [ext_list]; simp; done) | (simp; done) | (rw [hk0]; rfl) | (rw [List.take_of_length_le (by simp)]; done) | (rw [ext_list, ext_list]; simp; done))).mono ?_
            rintro e w1 ⟨rfl, rfl⟩
            go_wp2_with fail
            have R1 := Lib.hid (R0.out.keep (Gr.one W (.cells #[.int .i64 (n1 : Int), .int .i64 (1 : Int)] 23)))
            have F1 := Lib.hid (Blk.made W (.int .i64 (n1 : Int)) (.int .i64 (1 : Int)) 23)
            have GW1 := Lib.hid (GW.out.trans ((Gr.one W (.cells #[.int .i64 (n1 : Int), .int .i64 (1 : Int)] 23)).below.mono GW.out.size))
            refine (TX.out _).mono ?_
            rintro e w7 ⟨rfl, hb⟩
            obtain ⟨s1, x1, y1, f1, e1⟩ := R1.out.below hb
            obtain ⟨s2, x2, y2, f2, e2⟩ := F1.out.below hb
            rw [hz0] at x2 y2
            clear f2 e2 s2
            have GW7 := Lib.hid (GW1.out.trans (hb.mono GW1.out.size))
            clear hb R1 F1 GW1
            go_wp2_with fail
            refine bodyPost_ret (v := .tuple #[.agg #[.int .i64 0, .int .i64 0], .int .i64 5]) (by simp [results, Tryd.results25, go_sem, x1, y1]) rfl ⟨HA.out, ?_⟩
            exact put_below GW7.out (Nat.le_refl _)
      · have hk1 : 0 < s.size := by omega
        have fb := first_whole s hk1
        by_cases hf : ((s[0]'hk1).toNat : Int) = 45
        · have b2 : (((s[0]'hk1).toNat : Int) == 45) = true := by rw [hf]; rfl
          have HD := fb.2 hf
          clear fb hf hk0
          have HN1 := Lib.hid (show rdN s.data.toList s.size = (s.data.toList.take s.size).tail from if_pos HD)
          have HS1 := Lib.hid (show rdS s.data.toList s.size = -(nmV (rdN s.data.toList s.size) : Int) from if_pos HD)
          have hn1 := nmV_le (rdN s.data.toList s.size)
          clear HD
          generalize he1 : nmV (rdN s.data.toList s.size) = n1 at *
          generalize hi1 : nmB (rdN s.data.toList s.size) = i1 at *
          have HE1 := Lib.hid he1
          have HI1 := Lib.hid hi1
          clear he1 hi1
          have C1 := Lib.hid (fun (t : ByteArray) (W : World) (hs : t.size ≤ 100) (ht : t.data.toList = rdN s.data.toList s.size) => number_eq W hs ht HE1.out HI1.out)
          have HD2 := Lib.hid (show rdD s.data.toList s.size = 1 from if_neg (by simp))
          have HI := Lib.hid (show rdI s.data.toList s.size = i1 by unfold rdI; rw [HI1.out]; simp)
          have HA := Lib.hid (HQ.out s.size (by omega) HK.out (fun h => by omega))
          rw [HI.out, HS1.out, HD2.out] at HA
          clear HQ HS1 HD2 HI HK
          have TX := Lib.hid (fun W => rtext_any (-(n1 : Int)) (1 : Int) W (by omega) (by omega) (by omega) (by omega))
          have HNO := Lib.hid (fun i h => ans_no (l := s.data.toList) (i := i) (v1 := (-(n1 : Int))) (v2 := (1 : Int)) h)
          have HYE := Lib.hid (fun h h' => ans_yes (l := s.data.toList) (v1 := (-(n1 : Int))) (v2 := (1 : Int)) h h')
          generalize rtT (-(n1 : Int)) (1 : Int) = T at *
          generalize rtE (-(n1 : Int)) (1 : Int) = E at *
          cases i1
          · rw [HNO.out false (Or.inl rfl)] at HA
            clear HYE HNO
            go_wp2_with fail
            refine (C1.out _ _ (by first | omega | (simp; omega) | simp) (by rw [HN1.out, ← List.drop_one]; first | (rw [ext_list]; done) | (rw [ext_list, ext_list]; simp; done) | (rw [ext_list, ext_list]; simp [List.take_take]; done))).mono ?_
            rintro e w1 ⟨rfl, rfl⟩
            go_wp2_with fail
            have R1 := Lib.hid (R0.out.keep (Gr.one W (.cells #[.int .i64 (-(n1 : Int)), .int .i64 (1 : Int)] 23)))
            have F1 := Lib.hid (Blk.made W (.int .i64 (-(n1 : Int))) (.int .i64 (1 : Int)) 23)
            have GW1 := Lib.hid (GW.out.trans ((Gr.one W (.cells #[.int .i64 (-(n1 : Int)), .int .i64 (1 : Int)] 23)).below.mono GW.out.size))
            refine (TX.out _).mono ?_
            rintro e w7 ⟨rfl, hb⟩
            obtain ⟨s1, x1, y1, f1, e1⟩ := R1.out.below hb
            obtain ⟨s2, x2, y2, f2, e2⟩ := F1.out.below hb
            rw [hz0] at x2 y2
            clear f2 e2 s2
            have GW7 := Lib.hid (GW1.out.trans (hb.mono GW1.out.size))
            clear hb R1 F1 GW1
            go_wp2_with fail
            refine bodyPost_ret (v := .tuple #[.agg #[.int .i64 0, .int .i64 0], .int .i64 5]) (by simp [results, Tryd.results25, go_sem, x1, y1]) rfl ⟨HA.out, ?_⟩
            exact put_below GW7.out (Nat.le_refl _)
          · by_cases q1 : E = 0
            · subst q1
              by_cases q2 : T.data.toList = s.data.toList
              · rw [HYE.out rfl q2] at HA
                obtain rfl : s = T := (ByteArray.ext (Array.toList_inj.1 q2)).symm
                clear q2 HYE HNO
                go_wp2_with fail
                refine (C1.out _ _ (by first | omega | (simp; omega) | simp) (by rw [HN1.out, ← List.drop_one]; first | (rw [ext_list]; done) | (rw [ext_list, ext_list]; simp; done) | (rw [ext_list, ext_list]; simp [List.take_take]; done))).mono ?_
                rintro e w1 ⟨rfl, rfl⟩
                go_wp2_with fail
                have R1 := Lib.hid (R0.out.keep (Gr.one W (.cells #[.int .i64 (-(n1 : Int)), .int .i64 (1 : Int)] 23)))
                have F1 := Lib.hid (Blk.made W (.int .i64 (-(n1 : Int))) (.int .i64 (1 : Int)) 23)
                have GW1 := Lib.hid (GW.out.trans ((Gr.one W (.cells #[.int .i64 (-(n1 : Int)), .int .i64 (1 : Int)] 23)).below.mono GW.out.size))
                refine (TX.out _).mono ?_
                rintro e w7 ⟨rfl, hb⟩
                obtain ⟨s1, x1, y1, f1, e1⟩ := R1.out.below hb
                obtain ⟨s2, x2, y2, f2, e2⟩ := F1.out.below hb
                rw [hz0] at x2 y2
                clear f2 e2 s2
                have GW7 := Lib.hid (GW1.out.trans (hb.mono GW1.out.size))
                clear hb R1 F1 GW1
                go_wp2_with fail
                refine bodyPost_ret (v := .tuple #[.agg #[.int .i64 (-(n1 : Int)), .int .i64 (1 : Int)], .int .i64 0]) (by simp [results, Tryd.results25, go_sem, x1, y1]) rfl ⟨HA.out, ?_⟩
                exact put_below GW7.out (Nat.le_refl _)
              · rw [HNO.out true (Or.inr (Or.inr q2))] at HA
                obtain ⟨t1, t2, t3⟩ := ba_ne q2
                clear q2 HYE HNO
                go_wp2_with fail
                refine (C1.out _ _ (by first | omega | (simp; omega) | simp) (by rw [HN1.out, ← List.drop_one]; first | (rw [ext_list]; done) | (rw [ext_list, ext_list]; simp; done) | (rw [ext_list, ext_list]; simp [List.take_take]; done))).mono ?_
                rintro e w1 ⟨rfl, rfl⟩
                go_wp2_with fail
                have R1 := Lib.hid (R0.out.keep (Gr.one W (.cells #[.int .i64 (-(n1 : Int)), .int .i64 (1 : Int)] 23)))
                have F1 := Lib.hid (Blk.made W (.int .i64 (-(n1 : Int))) (.int .i64 (1 : Int)) 23)
                have GW1 := Lib.hid (GW.out.trans ((Gr.one W (.cells #[.int .i64 (-(n1 : Int)), .int .i64 (1 : Int)] 23)).below.mono GW.out.size))
                refine (TX.out _).mono ?_
                rintro e w7 ⟨rfl, hb⟩
                obtain ⟨s1, x1, y1, f1, e1⟩ := R1.out.below hb
                obtain ⟨s2, x2, y2, f2, e2⟩ := F1.out.below hb
                rw [hz0] at x2 y2
                clear f2 e2 s2
                have GW7 := Lib.hid (GW1.out.trans (hb.mono GW1.out.size))
                clear hb R1 F1 GW1
                go_wp2_with fail
                refine bodyPost_ret (v := .tuple #[.agg #[.int .i64 0, .int .i64 0], .int .i64 5]) (by simp [results, Tryd.results25, go_sem, x1, y1]) rfl ⟨HA.out, ?_⟩
                exact put_below GW7.out (Nat.le_refl _)
            · rw [HNO.out true (Or.inr (Or.inl q1))] at HA
              have t1 : (E != 0) = true := by rw [bne_iff_ne]; exact q1
              clear HYE HNO
              go_wp2_with fail
              refine (C1.out _ _ (by first | omega | (simp; omega) | simp) (by rw [HN1.out, ← List.drop_one]; first | (rw [ext_list]; done) | (rw [ext_list, ext_list]; simp; done) | (rw [ext_list, ext_list]; simp [List.take_take]; done))).mono ?_
              rintro e w1 ⟨rfl, rfl⟩
              go_wp2_with fail
              have R1 := Lib.hid (R0.out.keep (Gr.one W (.cells #[.int .i64 (-(n1 : Int)), .int .i64 (1 : Int)] 23)))
              have F1 := Lib.hid (Blk.made W (.int .i64 (-(n1 : Int))) (.int .i64 (1 : Int)) 23)
              have GW1 := Lib.hid (GW.out.trans ((Gr.one W (.cells #[.int .i64 (-(n1 : Int)), .int .i64 (1 : Int)] 23)).below.mono GW.out.size))
              refine (TX.out _).mono ?_
              rintro e w7 ⟨rfl, hb⟩
              obtain ⟨s1, x1, y1, f1, e1⟩ := R1.out.below hb
              obtain ⟨s2, x2, y2, f2, e2⟩ := F1.out.below hb
              rw [hz0] at x2 y2
              clear f2 e2 s2
              have GW7 := Lib.hid (GW1.out.trans (hb.mono GW1.out.size))
              clear hb R1 F1 GW1
              go_wp2_with fail
              refine bodyPost_ret (v := .tuple #[.agg #[.int .i64 0, .int .i64 0], .int .i64 5]) (by simp [results, Tryd.results25, go_sem, x1, y1]) rfl ⟨HA.out, ?_⟩
              exact put_below GW7.out (Nat.le_refl _)
        · have b2 : (((s[0]'hk1).toNat : Int) == 45) = false := by rw [beq_eq_false_iff_ne]; exact hf
          have HD : ¬ ((s.data.toList.take s.size).head? = some 45) := fun e => hf (fb.1 e)
          clear fb hf hk0
          have HN1 := Lib.hid (show rdN s.data.toList s.size = s.data.toList.take s.size from if_neg HD)
          have HS1 := Lib.hid (show rdS s.data.toList s.size = (nmV (rdN s.data.toList s.size) : Int) from if_neg HD)
          have hn1 := nmV_le (rdN s.data.toList s.size)
          clear HD
          generalize he1 : nmV (rdN s.data.toList s.size) = n1 at *
          generalize hi1 : nmB (rdN s.data.toList s.size) = i1 at *
          have HE1 := Lib.hid he1
          have HI1 := Lib.hid hi1
          clear he1 hi1
          have C1 := Lib.hid (fun (t : ByteArray) (W : World) (hs : t.size ≤ 100) (ht : t.data.toList = rdN s.data.toList s.size) => number_eq W hs ht HE1.out HI1.out)
          have HD2 := Lib.hid (show rdD s.data.toList s.size = 1 from if_neg (by simp))
          have HI := Lib.hid (show rdI s.data.toList s.size = i1 by unfold rdI; rw [HI1.out]; simp)
          have HA := Lib.hid (HQ.out s.size (by omega) HK.out (fun h => by omega))
          rw [HI.out, HS1.out, HD2.out] at HA
          clear HQ HS1 HD2 HI HK
          have TX := Lib.hid (fun W => rtext_any (n1 : Int) (1 : Int) W (by omega) (by omega) (by omega) (by omega))
          have HNO := Lib.hid (fun i h => ans_no (l := s.data.toList) (i := i) (v1 := (n1 : Int)) (v2 := (1 : Int)) h)
          have HYE := Lib.hid (fun h h' => ans_yes (l := s.data.toList) (v1 := (n1 : Int)) (v2 := (1 : Int)) h h')
          generalize rtT (n1 : Int) (1 : Int) = T at *
          generalize rtE (n1 : Int) (1 : Int) = E at *
          cases i1
          · rw [HNO.out false (Or.inl rfl)] at HA
            clear HYE HNO
            go_wp2_with fail
            refine (C1.out _ _ (by first | omega | (simp; omega) | simp) (by rw [HN1.out]; first | (rw [ext_list]; simp; done) | (simp; done) | (rw [hk0]; rfl) | (rw [List.take_of_length_le (by simp)]; done) | (rw [ext_list, ext_list]; simp; done))).mono ?_
            rintro e w1 ⟨rfl, rfl⟩
            go_wp2_with fail
            have R1 := Lib.hid (R0.out.keep (Gr.one W (.cells #[.int .i64 (n1 : Int), .int .i64 (1 : Int)] 23)))
            have F1 := Lib.hid (Blk.made W (.int .i64 (n1 : Int)) (.int .i64 (1 : Int)) 23)
            have GW1 := Lib.hid (GW.out.trans ((Gr.one W (.cells #[.int .i64 (n1 : Int), .int .i64 (1 : Int)] 23)).below.mono GW.out.size))
            refine (TX.out _).mono ?_
            rintro e w7 ⟨rfl, hb⟩
            obtain ⟨s1, x1, y1, f1, e1⟩ := R1.out.below hb
            obtain ⟨s2, x2, y2, f2, e2⟩ := F1.out.below hb
            rw [hz0] at x2 y2
            clear f2 e2 s2
            have GW7 := Lib.hid (GW1.out.trans (hb.mono GW1.out.size))
            clear hb R1 F1 GW1
            go_wp2_with fail
            refine bodyPost_ret (v := .tuple #[.agg #[.int .i64 0, .int .i64 0], .int .i64 5]) (by simp [results, Tryd.results25, go_sem, x1, y1]) rfl ⟨HA.out, ?_⟩
            exact put_below GW7.out (Nat.le_refl _)
          · by_cases q1 : E = 0
            · subst q1
              by_cases q2 : T.data.toList = s.data.toList
              · rw [HYE.out rfl q2] at HA
                obtain rfl : s = T := (ByteArray.ext (Array.toList_inj.1 q2)).symm
                clear q2 HYE HNO
                go_wp2_with fail
                refine (C1.out _ _ (by first | omega | (simp; omega) | simp) (by rw [HN1.out]; first | (rw [ext_list]; simp; done) | (simp; done) | (rw [hk0]; rfl) | (rw [List.take_of_length_le (by simp)]; done) | (rw [ext_list, ext_list]; simp; done))).mono ?_
                rintro e w1 ⟨rfl, rfl⟩
                go_wp2_with fail
                have R1 := Lib.hid (R0.out.keep (Gr.one W (.cells #[.int .i64 (n1 : Int), .int .i64 (1 : Int)] 23)))
                have F1 := Lib.hid (Blk.made W (.int .i64 (n1 : Int)) (.int .i64 (1 : Int)) 23)
                have GW1 := Lib.hid (GW.out.trans ((Gr.one W (.cells #[.int .i64 (n1 : Int), .int .i64 (1 : Int)] 23)).below.mono GW.out.size))
                refine (TX.out _).mono ?_
                rintro e w7 ⟨rfl, hb⟩
                obtain ⟨s1, x1, y1, f1, e1⟩ := R1.out.below hb
                obtain ⟨s2, x2, y2, f2, e2⟩ := F1.out.below hb
                rw [hz0] at x2 y2
                clear f2 e2 s2
                have GW7 := Lib.hid (GW1.out.trans (hb.mono GW1.out.size))
                clear hb R1 F1 GW1
                go_wp2_with fail
                refine bodyPost_ret (v := .tuple #[.agg #[.int .i64 (n1 : Int), .int .i64 (1 : Int)], .int .i64 0]) (by simp [results, Tryd.results25, go_sem, x1, y1]) rfl ⟨HA.out, ?_⟩
                exact put_below GW7.out (Nat.le_refl _)
              · rw [HNO.out true (Or.inr (Or.inr q2))] at HA
                obtain ⟨t1, t2, t3⟩ := ba_ne q2
                clear q2 HYE HNO
                go_wp2_with fail
                refine (C1.out _ _ (by first | omega | (simp; omega) | simp) (by rw [HN1.out]; first | (rw [ext_list]; simp; done) | (simp; done) | (rw [hk0]; rfl) | (rw [List.take_of_length_le (by simp)]; done) | (rw [ext_list, ext_list]; simp; done))).mono ?_
                rintro e w1 ⟨rfl, rfl⟩
                go_wp2_with fail
                have R1 := Lib.hid (R0.out.keep (Gr.one W (.cells #[.int .i64 (n1 : Int), .int .i64 (1 : Int)] 23)))
                have F1 := Lib.hid (Blk.made W (.int .i64 (n1 : Int)) (.int .i64 (1 : Int)) 23)
                have GW1 := Lib.hid (GW.out.trans ((Gr.one W (.cells #[.int .i64 (n1 : Int), .int .i64 (1 : Int)] 23)).below.mono GW.out.size))
                refine (TX.out _).mono ?_
                rintro e w7 ⟨rfl, hb⟩
                obtain ⟨s1, x1, y1, f1, e1⟩ := R1.out.below hb
                obtain ⟨s2, x2, y2, f2, e2⟩ := F1.out.below hb
                rw [hz0] at x2 y2
                clear f2 e2 s2
                have GW7 := Lib.hid (GW1.out.trans (hb.mono GW1.out.size))
                clear hb R1 F1 GW1
                go_wp2_with fail
                refine bodyPost_ret (v := .tuple #[.agg #[.int .i64 0, .int .i64 0], .int .i64 5]) (by simp [results, Tryd.results25, go_sem, x1, y1]) rfl ⟨HA.out, ?_⟩
                exact put_below GW7.out (Nat.le_refl _)
            · rw [HNO.out true (Or.inr (Or.inl q1))] at HA
              have t1 : (E != 0) = true := by rw [bne_iff_ne]; exact q1
              clear HYE HNO
              go_wp2_with fail
              refine (C1.out _ _ (by first | omega | (simp; omega) | simp) (by rw [HN1.out]; first | (rw [ext_list]; simp; done) | (simp; done) | (rw [hk0]; rfl) | (rw [List.take_of_length_le (by simp)]; done) | (rw [ext_list, ext_list]; simp; done))).mono ?_
              rintro e w1 ⟨rfl, rfl⟩
              go_wp2_with fail
              have R1 := Lib.hid (R0.out.keep (Gr.one W (.cells #[.int .i64 (n1 : Int), .int .i64 (1 : Int)] 23)))
              have F1 := Lib.hid (Blk.made W (.int .i64 (n1 : Int)) (.int .i64 (1 : Int)) 23)
              have GW1 := Lib.hid (GW.out.trans ((Gr.one W (.cells #[.int .i64 (n1 : Int), .int .i64 (1 : Int)] 23)).below.mono GW.out.size))
              refine (TX.out _).mono ?_
              rintro e w7 ⟨rfl, hb⟩
              obtain ⟨s1, x1, y1, f1, e1⟩ := R1.out.below hb
              obtain ⟨s2, x2, y2, f2, e2⟩ := F1.out.below hb
              rw [hz0] at x2 y2
              clear f2 e2 s2
              have GW7 := Lib.hid (GW1.out.trans (hb.mono GW1.out.size))
              clear hb R1 F1 GW1
              go_wp2_with fail
              refine bodyPost_ret (v := .tuple #[.agg #[.int .i64 0, .int .i64 0], .int .i64 5]) (by simp [results, Tryd.results25, go_sem, x1, y1]) rfl ⟨HA.out, ?_⟩
              exact put_below GW7.out (Nat.le_refl _)
/-- Parse of a fraction's text -/
theorem rparse_yes (a b : Int) (s : ByteArray) (w : World) (hs : s.size ≤ 100) (hv : vld a b = true) (ht : txt a b = s.data.toList) :
    Calls Tryd.prog 25 #[.string s] w fun e w' => e = .returned (.tuple #[.agg #[.int .i64 a, .int .i64 b], .int .i64 0]) ∧ Below w.heap.size w w' := by
  refine rparse_walk s w hs _ ?_
  intro k hk h1 h2
  obtain ⟨e1, e2, e3⟩ := rd_txt a b hv s.data.toList ht k (by simpa using hk) (fun j hj h => h1 j (by simpa using hj) h) (fun hj => h2 (by simpa using hj))
  rw [e1, e2, e3]
  unfold ans
  rw [if_pos ⟨rfl, hv, ht⟩]
/-- Parse of another text -/
theorem rparse_no (s : ByteArray) (w : World) (hs : s.size ≤ 100) (h : ∀ a b, vld a b = true → txt a b ≠ s.data.toList) :
    Calls Tryd.prog 25 #[.string s] w fun e w' => e = .returned (.tuple #[.agg #[.int .i64 0, .int .i64 0], .int .i64 5]) ∧ Below w.heap.size w w' := by
  refine rparse_walk s w hs _ ?_
  intro k _ _ _
  unfold ans
  rw [if_neg (fun e => h _ _ e.2.1 e.2.2)]
end Go.Proofs.YtdmddfhjfkdlnaaDoor
