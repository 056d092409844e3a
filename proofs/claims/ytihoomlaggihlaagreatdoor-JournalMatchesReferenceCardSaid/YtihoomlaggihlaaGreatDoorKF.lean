/- The contract of the journal's parse. Under the condition that the tables lie in memory as the program lays them. -/
import Derived.Test.YtihoomlaggihlaaGreatDoorKE
import Derived.Test.YtihoomlaggihlaaGreatDoorKP
namespace Go.Proofs.YtihoomlaggihlaaGreatDoor
open Go.RowKit

/-- records read, and the rest of the text -/
def Reading (t : List UInt8) (B : Nat) (wo : World) (v : Value) (r : List UInt8) (done : List (List UInt8)) (w : World) : Prop :=
  textP done ++ r = t ∧ okR done ∧ done.length + r.length ≤ t.length ∧ w.ownsRow B 9 1 v done.length (strs done) ∧ Below B wo w
/-- what parse leaves -/
def PPost (t : List UInt8) (w : World) (e : Ending) (w' : World) : Prop :=
  (∃ v recs, e = .returned (.tuple #[v, .bool true]) ∧ t = textP recs ∧ okR recs ∧ w'.ownsRow w.heap.size 9 1 v recs.length (strs recs) ∧ Below w.heap.size w w') ∨
  (e = .returned (.tuple #[.slice none 0 0, .bool false]) ∧ (¬ ∃ recs, okR recs ∧ t = textP recs) ∧ Below w.heap.size w w')
theorem Reading.step {t a b : List UInt8} {n B : Nat} {wo : World} {v v' : Value} {done : List (List UInt8)} {w w1 w' : World} (h : Reading t B wo v (a ++ 58 :: b) done w) (ha : Lib.decDigits n = a) (hn : n ≤ 20000) (hnb : n ≤ b.length) (hB : B ≤ w.heap.size) (hg1 : Below w.heap.size w w1) (ho : w'.ownsRow B 9 1 v' (done.length + 1) (strs done ++ strs [b.take n])) (hg : w1.grownBy w' v.ownBlock) : Reading t B wo v' (b.drop n) (done ++ [b.take n]) w' := by
  obtain ⟨h1, h2, h3, h4, h5⟩ := h
  refine ⟨?_, ?_, ?_, ?_, ?_⟩
  · rw [← h1, textP_app, ← ha]
    simp [textP, Nat.min_eq_left hnb]
  · intro x hx
    rcases List.mem_append.1 hx with e | e
    · exact h2 x e
    · rw [List.mem_singleton.1 e, List.length_take]; omega
  · simp at h3 ⊢; omega
  · rw [strs_app, List.length_append]; exact ho
  · exact (h5.trans (hg1.mono hB)).grown hg (Nat.le_trans hB hg1.size) (fun k hk => (h4.lt k hk).1)
theorem own_below' {w w' : World} {base e size n : Nat} {v : Value} {xs : List Value} (h : w.ownsRow base e size v n xs) (o : Below w.heap.size w w') : w'.ownsRow base e size v n xs := own_below h o
set_option maxHeartbeats 8000000 in
set_option maxRecDepth 100000 in
theorem parse_any (w : World) (t : List UInt8) (ht : t.length ≤ 1000000) (hL : Laid w) :
    Calls Tryz.prog 37 #[.string ⟨t.toArray⟩] w (PPost t w) := by
  have HL := Lib.hid hL
  have H0 : Hid (Reading t w.heap.size w (.slice none 0 0) t [] w) := Lib.hid ⟨rfl, by simp [okR], by simp, World.ownsRow_nil _ _ _ _, Below.refl _ _⟩
  clear hL
  go_enter Tryz.func37, Tryz.ntmps37
  go_wp2_with fail
  obtain ⟨wo, rfl⟩ : ∃ wo : World, wo = w := ⟨_, rfl⟩
  go_loopw [0, 4, 5, 6, 7, 8, 9] (fun s v _ _ _ _ _ wr => ∃ r done, s = .string ⟨List.toArray r⟩ ∧ Hid (Reading t wo.heap.size wo v r done wr)) (fun s _ _ _ _ _ _ _ => strLen s)
  case atStart => exact ⟨t, [], rfl, H0⟩
  case round =>
    clear H0
    obtain ⟨r, done, rfl, M⟩ := hrel
    have hsz : (⟨r.toArray⟩ : ByteArray).size = r.length := by simp [ByteArray.size]
    by_cases hr : r = []
    · subst hr
      go_wp2_with fail
      go_ret2
      have e := M.out.1
      rw [List.append_nil] at e
      exact Or.inl ⟨_, done, rfl, e.symm, M.out.2.1, M.out.2.2.2.1, M.out.2.2.2.2⟩
    · have hb : r.isEmpty = false := by simpa using hr
      have hz : wo.heap.size ≤ wr.heap.size := M.out.2.2.2.2.size
      have hlen : done.length + r.length ≤ 1000000 := by have := M.out.2.2.1; omega
      have HW := Lib.hid M.out.2.2.2.2
      have LR := Lib.hid (HL.out.keep HW.out)
      obtain ⟨m, hm⟩ := LR.out.ml
      have HM := Lib.hid hm
      have HNT := Lib.hid (fun h => M.out.1 ▸ not_text (done := done) hr h)
      clear hm hr
      go_wp2_with fail
      refine (Tryz.strings_Cut ⟨r.toArray⟩ ⟨#[58]⟩ m wr (by omega) HM.out).mono ?_
      rintro e _ ⟨rfl, q, rfl⟩
      have HG1 : Hid (Below wr.heap.size wr (wr.drewN q)) := Lib.hid (Gr.drewN wr q).below
      have L1 := Lib.hid (LR.out.keep HG1.out)
      rcases head_cases r with hc | ⟨a, b, rfl, ha⟩
      · -- no colon
        have HNH := Lib.hid (HNT.out (not_head0 hc))
        have HCU := Lib.hid (cut_none hc)
        have ecut : Lib.cut (⟨r.toArray⟩ : ByteArray).data.toList (⟨#[58]⟩ : ByteArray).data.toList = (r, [], false) := HCU.out
        rw [ecut]
        clear ecut hc
        by_cases hv : ∃ v, Lib.atoiAll r = .ok v
        · obtain ⟨v, hv⟩ := hv
          have HV := Lib.hid hv
          clear hv
          go_wp2_with fail
          refine (atoi_yes ⟨r.toArray⟩ _ (by omega) v HV.out).mono ?_
          rintro e w2 ⟨rfl, hg⟩
          have HG2 := Lib.hid (HG1.out.trans (hg.mono HG1.out.size))
          clear hg
          go_wp2_with fail
          go_ret2
          exact Or.inr ⟨rfl, fun ⟨x, h1, h2⟩ => HNH.out ⟨x, h1, h2⟩, HW.out.trans (HG2.out.mono hz)⟩
        · have HV := Lib.hid (fun v e => hv ⟨v, e⟩ : ∀ v, Lib.atoiAll r ≠ .ok v)
          clear hv
          go_wp2_with fail
          refine (atoi_no ⟨r.toArray⟩ _ (by omega) L1.out HV.out).mono ?_
          rintro e w2 ⟨v, N, rfl, hg⟩
          have HG2 := Lib.hid (HG1.out.trans (hg.mono HG1.out.size))
          clear hg
          go_wp2_with fail
          go_ret2
          exact Or.inr ⟨rfl, fun ⟨x, h1, h2⟩ => HNH.out ⟨x, h1, h2⟩, HW.out.trans (HG2.out.mono hz)⟩
      · have HA := Lib.hid ha
        have HCU := Lib.hid (cut_some (b := b) ha)
        have ecut : Lib.cut (⟨(a ++ 58 :: b).toArray⟩ : ByteArray).data.toList (⟨#[58]⟩ : ByteArray).data.toList = (a, b, true) := HCU.out
        rw [ecut]
        have hal : a.length ≤ 1000000 := by simp at hlen; omega
        have hbl : b.length ≤ 1000000 := by simp at hlen; omega
        have hsa : (⟨a.toArray⟩ : ByteArray).size = a.length := by simp [ByteArray.size]
        have hsb : (⟨b.toArray⟩ : ByteArray).size = b.length := by simp [ByteArray.size]
        clear ecut ha
        by_cases hv : ∃ v, Lib.atoiAll a = .ok v
        · obtain ⟨v, hv⟩ := hv
          have HV := Lib.hid hv
          have hvb := atoi_bd a v hv
          have HDA : Hid (∀ n, n ≤ 20000 → Lib.decDigits n = a → v = n) := Lib.hid (fun n hn e => by
            rw [← e, dec_atoi n (by omega)] at hv
            exact (Lib.NumEnd.ok.inj hv).symm)
          clear hv
          by_cases v0 : v < 0
          · have HNH := Lib.hid (HNT.out (not_head1 HA.out (fun n h1 h2 e => by have := HDA.out n h1 e; omega)))
            go_wp2_with fail
            refine (atoi_yes ⟨a.toArray⟩ _ (by omega) v HV.out).mono ?_
            rintro e w2 ⟨rfl, hg⟩
            have HG2 := Lib.hid (HG1.out.trans (hg.mono HG1.out.size))
            clear hg
            go_wp2_with fail
            go_ret2
            exact Or.inr ⟨rfl, fun ⟨x, h1, h2⟩ => HNH.out ⟨x, h1, h2⟩, HW.out.trans (HG2.out.mono hz)⟩
          by_cases v1 : 20000 < v
          · have HNH := Lib.hid (HNT.out (not_head1 HA.out (fun n h1 h2 e => by have := HDA.out n h1 e; omega)))
            go_wp2_with fail
            refine (atoi_yes ⟨a.toArray⟩ _ (by omega) v HV.out).mono ?_
            rintro e w2 ⟨rfl, hg⟩
            have HG2 := Lib.hid (HG1.out.trans (hg.mono HG1.out.size))
            clear hg
            go_wp2_with fail
            go_ret2
            exact Or.inr ⟨rfl, fun ⟨x, h1, h2⟩ => HNH.out ⟨x, h1, h2⟩, HW.out.trans (HG2.out.mono hz)⟩
          obtain ⟨n, rfl⟩ : ∃ n : Nat, v = n := ⟨v.toNat, by omega⟩
          have n0 : (0 : Int) ≤ (n : Int) := Int.natCast_nonneg _
          have n1 : (n : Int) ≤ 20000 := by omega
          have hn : n ≤ 20000 := by omega
          have HIT := Lib.hid (show Lib.itoa (n : Int) = Lib.decDigits n by unfold Lib.itoa; rw [if_neg (by omega)]; rfl)
          clear v0 v1
          by_cases hda : Lib.decDigits n = a
          · have hq : (Lib.decDigits n == a) = true := by simpa using hda
            by_cases hnb : n ≤ b.length
            · have hnb2 : (n : Int) ≤ (b.length : Int) := by omega
              have HSTEP := Lib.hid (fun w1 v' w' => M.out.step (w1 := w1) (v' := v') (w' := w') hda hn hnb hz)
              clear hda
              go_wp2_with fail
              refine (atoi_yes ⟨a.toArray⟩ _ (by omega) (n : Int) HV.out).mono ?_
              rintro e w2 ⟨rfl, hg⟩
              have HG2 := Lib.hid (HG1.out.trans (hg.mono HG1.out.size))
              clear hg
              go_wp2_with fail
              refine (Tryz.strconv_Itoa (n : Int) (by omega) (by omega) _ (LR.out.keep HG2.out).pow).mono ?_
              rintro e w5 ⟨rfl, k5, os5, hw5⟩
              have HG5 : Hid (Below wr.heap.size wr w5) := Lib.hid (HG2.out.trans (by rw [hw5]; exact Lib.below_grow _ _ HG2.out.size _ _))
              clear hw5
              rw [HIT.out]
              generalize Lib.decDigits n = D at *
              obtain ⟨i9, hi9, ha9, hb9, hc9⟩ := info_parts info9
              have ex1 := extract_take b n
              have ex2 := extract_drop b n
              have hz5 : wo.heap.size ≤ w5.heap.size := by have := HG5.out.size; omega
              have HO := Lib.hid (own_below M.out.2.2.2.1 (HG5.out.alloc HG5.out.size (.cells #[.string ⟨(b.take n).toArray⟩] 9)))
              have HST := Lib.hid (fun v' w' => HSTEP.out _ v' w' (HG5.out.alloc HG5.out.size (.cells #[.string ⟨(b.take n).toArray⟩] 9)))
              have hdl : done.length ≤ 1000000 := by omega
              go_wp2_with (at_builtin; refine wpList_append_own _ rfl (.tmp 49) (.tmp 53) 26 rfl wo.heap.size 9 i9 _ 1 16 Tryz.underlying26 hi9 ha9 hb9 hc9 rfl (by decide) _ done.length (strs done) rfl HO.out ⟨w5.heap.size, 0, none⟩ 1 1 (strs [b.take n]) rfl rfl (news_one _ _ _) (strs_one _) (by unfold maxLen; omega) (by omega) (by simp; omega) ?_)
              intro v' w6 ho2 hg2 _
              have M2 := Lib.hid (HST.out v' w6 ho2 hg2)
              clear ho2 hg2 HST HO
              go_wp2_with fail
              go_roundw
              case rel => exact ⟨b.drop n, done ++ [b.take n], rfl, M2⟩
              case measure => simp [strLen, ByteArray.size]; omega
            · have hnb2 : (b.length : Int) < (n : Int) := by omega
              have HNH := Lib.hid (HNT.out (not_head1 HA.out (fun k h1 h2 e => by have := HDA.out k h1 e; omega)))
              clear hda
              go_wp2_with fail
              refine (atoi_yes ⟨a.toArray⟩ _ (by omega) (n : Int) HV.out).mono ?_
              rintro e w2 ⟨rfl, hg⟩
              have HG2 := Lib.hid (HG1.out.trans (hg.mono HG1.out.size))
              clear hg
              go_wp2_with fail
              refine (Tryz.strconv_Itoa (n : Int) (by omega) (by omega) _ (LR.out.keep HG2.out).pow).mono ?_
              rintro e w5 ⟨rfl, k5, os5, hw5⟩
              have HG5 : Hid (Below wr.heap.size wr w5) := Lib.hid (HG2.out.trans (by rw [hw5]; exact Lib.below_grow _ _ HG2.out.size _ _))
              clear hw5
              rw [HIT.out]
              generalize Lib.decDigits n = D at *
              go_wp2_with fail
              go_ret2
              exact Or.inr ⟨rfl, fun ⟨x, h1, h2⟩ => HNH.out ⟨x, h1, h2⟩, HW.out.trans (HG5.out.mono hz)⟩
          · have hq : (Lib.decDigits n == a) = false := by simpa using hda
            have HNH := Lib.hid (HNT.out (not_head1 HA.out (fun k h1 h2 e => hda (by have := HDA.out k h1 e; rw [show n = k by omega]; exact e))))
            clear hda
            go_wp2_with fail
            refine (atoi_yes ⟨a.toArray⟩ _ (by omega) (n : Int) HV.out).mono ?_
            rintro e w2 ⟨rfl, hg⟩
            have HG2 := Lib.hid (HG1.out.trans (hg.mono HG1.out.size))
            clear hg
            go_wp2_with fail
            refine (Tryz.strconv_Itoa (n : Int) (by omega) (by omega) _ (LR.out.keep HG2.out).pow).mono ?_
            rintro e w5 ⟨rfl, k5, os5, hw5⟩
            have HG5 : Hid (Below wr.heap.size wr w5) := Lib.hid (HG2.out.trans (by rw [hw5]; exact Lib.below_grow _ _ HG2.out.size _ _))
            clear hw5
            rw [HIT.out]
            generalize Lib.decDigits n = D at *
            go_wp2_with fail
            go_ret2
            exact Or.inr ⟨rfl, fun ⟨x, h1, h2⟩ => HNH.out ⟨x, h1, h2⟩, HW.out.trans (HG5.out.mono hz)⟩
        · have HV := Lib.hid (fun v e => hv ⟨v, e⟩ : ∀ v, Lib.atoiAll a ≠ .ok v)
          have HNH := Lib.hid (HNT.out (not_head1 HA.out (fun n h1 h2 e => hv ⟨n, by rw [← e]; exact dec_atoi n (by omega)⟩)))
          clear hv
          go_wp2_with fail
          refine (atoi_no ⟨a.toArray⟩ _ (by omega) L1.out HV.out).mono ?_
          rintro e w2 ⟨v, N, rfl, hg⟩
          have HG2 := Lib.hid (HG1.out.trans (hg.mono HG1.out.size))
          clear hg
          go_wp2_with fail
          go_ret2
          exact Or.inr ⟨rfl, fun ⟨x, h1, h2⟩ => HNH.out ⟨x, h1, h2⟩, HW.out.trans (HG2.out.mono hz)⟩
end Go.Proofs.YtihoomlaggihlaaGreatDoor
