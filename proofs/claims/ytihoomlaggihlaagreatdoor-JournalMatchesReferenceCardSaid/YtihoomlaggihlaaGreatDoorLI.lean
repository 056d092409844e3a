/- The laws' examples: head. Under the condition that the tables lie in memory as the program lays them. -/
import Derived.Test.YtihoomlaggihlaaGreatDoorLH
namespace Go.Proofs.YtihoomlaggihlaaGreatDoor
open Go.RowKit

def aT : List UInt8 := [97]
def bT : List UInt8 := [98, 99]
theorem pieces_ab : (pieces (textP [aT, bT])).length = 1 := by
  have e : textP [aT, bT] = [49, 58, 97, 50, 58, 98, 99] := by
    rw [textP_cons, textP_cons, dec_small (show aT.length < 10 by decide), dec_small (show bT.length < 10 by decide)]
    rfl
  rw [e, pieces_cons (by decide)]
  rw [show List.drop 46 [49, 58, 97, 50, 58, 98, 99] = ([] : List UInt8) from rfl, pieces_nil]
  rfl
theorem pieces_big (t : List UInt8) (n : Nat) (h : t.length = n) : 46 * (pieces t).length ≥ n := by
  induction n using Nat.strongRecOn generalizing t with
  | _ n ih =>
    by_cases ht : t = []
    · subst ht; simp at h; omega
    · rw [pieces_cons ht]
      have := List.length_pos_iff.2 ht
      have i := ih (t.drop 46).length (by rw [List.length_drop]; omega) (t.drop 46) rfl
      rw [List.length_drop] at i
      simp only [List.length_cons]
      omega
theorem pieces_200 : 5 ≤ (pieces (textP [List.replicate 200 0])).length := by
  have h := pieces_big (textP [List.replicate 200 0]) _ rfl
  have : (textP [List.replicate 200 (0 : UInt8)]).length ≥ 201 := by
    rw [textP_cons]
    simp only [List.length_append, List.length_cons, List.length_replicate]
    omega
  omega
theorem fail_start (S : List (List UInt8)) (off : Bool) (al : Option (Int × Int × Int)) (x y : Int) : PD.start (PD.fail ⟨S, [], off, al⟩ x y) = ⟨S, [], false, none⟩ := by
  unfold PD.fail PD.start
  cases off <;> simp [failS, settleS]
theorem JS.below {w0 w w' : World} {F G : Nat → Prop} {d jb n c : Nat} {S recs : List (List UInt8)} {al : Option (Int × Int × Int)} (h : JS w0 F G d jb n c S recs al w) (hb : Below w.heap.size w w') : JS w0 F G d jb n c S recs al w' :=
  ⟨h.ds.below hb, h.jat.below hb, h.sep, h.gge, h.good, h.n3⟩
theorem JS.lt {w0 w : World} {F G : Nat → Prop} {d jb n c : Nat} {S recs : List (List UInt8)} {al : Option (Int × Int × Int)} (h : JS w0 F G d jb n c S recs al w) : ∀ x, F x ∨ G x → x < w.heap.size := fun x e => e.elim (h.ds.dat.lt x) (h.jat.lt x)
/-- records written out -/
theorem SR.lit {w : World} {X : Nat → Prop} (xs : List (List UInt8)) (hX : ∀ x, X x → x < w.heap.size) : SR (w.alloc (.cells (strs xs).toArray 9)) X (.slice (some ⟨w.heap.size, 0, none⟩) xs.length xs.length) xs := by
  refine ⟨_, _, rfl, Nat.le_refl _, fun k hk => ⟨_, _, rfl, fun e => by have := hX _ e; omega, ?_⟩⟩
  refine cell_at (heap_alloc_new w _) ?_
  rw [List.getElem?_toArray]
  simp [strs, hk]
theorem SR.zero {w : World} {X : Nat → Prop} {v : Value} {xs : List (List UInt8)} (h : SR w X v xs) : SR w (fun _ => False) v xs := h.weak fun _ _ e => e.elim
/-- one list twice -/
theorem same_yes (w : World) (v u : Value) (xs : List (List UInt8)) {X Y : Nat → Prop} (hv : SR w X v xs) (hu : SR w Y u xs) (hm : xs.length ≤ 1000000) :
    Calls Tryz.prog 15 #[v, u] w fun e w' => e = .returned (.bool true) ∧ Below w.heap.size w w' := by
  have h := same_any w (fun _ => False) v u xs xs hv.zero hu.zero hm
  rwa [show decide (xs = xs) = true by simp] at h
set_option maxHeartbeats 4000000 in
set_option maxRecDepth 100000 in
theorem append_nil (w : World) : Calls Tryz.prog 13 #[.pointer none, .slice none 0 0] w fun e w' => e = .returned (.int .i64 1) ∧ Below w.heap.size w w' := by
  go_enter_defers Tryz.func13, Tryz.ntmps13
  go_wp2_with fail
  simp [bodyPostD, Leaves, results, Tryz.results13, go_sem]
  exact Below.alloc (Below.alloc (Below.refl _ _) (Nat.le_refl _) _) (by simp) _
set_option maxHeartbeats 16000000 in
set_option maxRecDepth 100000 in
theorem head_walk (w : World) (hL : Laid w) : Calls Tryz.prog 5 #[] w fun e w' => e = .returned (.bool true) ∧ Below w.heap.size w w' := by
  have HL := Lib.hid hL
  clear hL
  go_enter Tryz.func5, Tryz.ntmps5
  go_wp2_with fail
  refine (ds_new w w 6 (by decide) (by decide) (Below.refl _ _) HL.out).mono ?_
  rintro e w1 ⟨d, F0, rfl, g1, _, _⟩
  have HO := Lib.hid (ds_open w w1 F0 d 6 (List.replicate 6 zeroT) none g1 (by decide))
  clear g1
  go_wp2_with fail
  refine HO.out.mono ?_
  rintro e w2 (⟨hno, _⟩ | ⟨_, _, _, hne, _⟩ | ⟨c, recs, hop, jb, gv, F1, G1, S1, al1, rfl, hst, hal, hs1, hG1, hrs⟩)
  · exact absurd ⟨0, [], opn_new 6 (by decide)⟩ hno
  · exact absurd rfl hne
  obtain ⟨rfl, rfl⟩ := hop.same (opn_new 6 (by decide))
  obtain rfl := hal rfl
  obtain ⟨ga, gc, rfl⟩ : ∃ ga gc, gv = .slice ga 0 gc := by
    rcases hrs.own.2 with ⟨rfl, _⟩ | ⟨g, cap, _, rfl, _⟩
    · exact ⟨_, _, rfl⟩
    · exact ⟨_, _, rfl⟩
  have J1 := Lib.hid hst
  clear hal hst hs1 hG1 hrs hop HO
  have A1 : Below w2.heap.size w2 (w2.alloc (.cells (strs [aT, bT]).toArray 9)) := (Below.refl _ _).alloc (Nat.le_refl _) _
  have HA := Lib.hid (js_append w _ F1 G1 d jb 6 0 S1 [] none [aT, bT] _ (J1.out.below A1) (SR.lit [aT, bT] J1.out.lt) (by decide) (by decide) (by have := textP_dbl [aT, bT]; exact Nat.le_trans this (by decide)) (by decide))
  clear A1
  change Hid (Calls Tryz.prog 13 #[.pointer (some ⟨jb, 0, none⟩), .slice (some ⟨w2.heap.size, 0, none⟩) 2 2] (w2.alloc (.cells #[.string ⟨#[97]⟩, .string ⟨#[98, 99]⟩] 9)) _) at HA
  go_wp2_with fail
  refine HA.out.mono ?_
  rintro e w3 ⟨F2, G2, hs, ⟨c', S2, al', rfl, hj, hal, _, hc'⟩ | ⟨code, hcode, _⟩ | ⟨hne, _⟩⟩
  rotate_left
  · exfalso
    rcases hcode with ⟨_, h⟩ | ⟨_, _, h⟩
    · exact absurd h (by decide)
    · rw [pieces_ab] at h
      exact absurd h (by decide)
  · exact absurd rfl hne
  obtain rfl := hal rfl
  rw [pieces_ab] at hc'
  subst hc'
  have J2 := Lib.hid hj
  have HR := Lib.hid (room_any w3 G2 jb d 6 (0 + 1) _ false hj.jat (by decide))
  clear hj hs hal HA J1
  go_wp2_with fail
  refine HR.out.mono ?_
  rintro e w4 ⟨rfl, hb⟩
  have J3 := Lib.hid (J2.out.below hb)
  clear hb J2 HR
  have HT := Lib.hid (text_n w4 200 (by decide) (by decide))
  change Hid (Calls Tryz.prog 31 #[.int .i64 200] w4 _) at HT
  go_wp2_with fail
  refine HT.out.mono ?_
  rintro e w5 ⟨rfl, hb⟩
  have J4 := Lib.hid (J3.out.below hb)
  clear hb J3 HT
  generalize hz : List.replicate 200 (0 : UInt8) = z at *
  have hzl : z.length = 200 := by rw [← hz]; simp
  have hzp : 5 ≤ (pieces (textP [z])).length := by rw [← hz]; exact pieces_200
  have hzs : longB [z] = false := by simp [longB, hzl]
  have hzt : (textP [z]).length ≤ 10000000 := Nat.le_trans (textP_dbl [z]) (by simp [sumLen, hzl])
  have hzm : ∀ t ∈ [z], t.length ≤ 10000000 := by intro t ht; simp at ht; subst ht; omega
  clear hz
  have A1 : Below w5.heap.size w5 (w5.alloc (.cells (strs [z]).toArray 9)) := (Below.refl _ _).alloc (Nat.le_refl _) _
  have HA := Lib.hid (js_append w _ F2 G2 d jb 6 (0 + 1) S2 _ none [z] _ (J4.out.below A1) (SR.lit [z] J4.out.lt) (by simp) hzm hzt (by simp))
  clear A1
  change Hid (Calls Tryz.prog 13 #[.pointer (some ⟨jb, 0, none⟩), .slice (some ⟨w5.heap.size, 0, none⟩) 1 1] (w5.alloc (.cells #[.string ⟨z.toArray⟩] 9)) _) at HA
  go_wp2_with fail
  refine HA.out.mono ?_
  rintro e w6 ⟨F3, G3, hs, ⟨c', S', al', _, hj, _, _, hc'⟩ | ⟨code, hcode, rfl, hj⟩ | ⟨hne, _⟩⟩
  · exfalso
    have := hj.jat.le
    omega
  rotate_left
  · exact absurd rfl hne
  obtain rfl : code = 22 := by
    rcases hcode with ⟨_, h⟩ | ⟨h, _⟩
    · rw [hzs] at h; cases h
    · exact h
  have J5 := Lib.hid hj
  clear hj hs HA J4 hcode hzl hzp hzs hzt hzm
  have HT := Lib.hid (text_n w6 20001 (by decide) (by decide))
  change Hid (Calls Tryz.prog 31 #[.int .i64 20001] w6 _) at HT
  go_wp2_with fail
  refine HT.out.mono ?_
  rintro e w7 ⟨rfl, hb⟩
  have J6 := Lib.hid (J5.out.below hb)
  clear hb J5 HT
  generalize hy : List.replicate 20001 (0 : UInt8) = y at *
  have hyl : y.length = 20001 := by rw [← hy]; simp
  have hys : longB [y] = true := by simp [longB, hyl]
  have hyt : (textP [y]).length ≤ 10000000 := Nat.le_trans (textP_dbl [y]) (by simp [sumLen, hyl])
  have hym : ∀ t ∈ [y], t.length ≤ 10000000 := by intro t ht; simp at ht; subst ht; omega
  clear hy
  have A1 : Below w7.heap.size w7 (w7.alloc (.cells (strs [y]).toArray 9)) := (Below.refl _ _).alloc (Nat.le_refl _) _
  have HA := Lib.hid (js_append w _ F3 G3 d jb 6 (0 + 1) S2 _ none [y] _ (J6.out.below A1) (SR.lit [y] J6.out.lt) (by simp) hym hyt (by simp))
  clear A1
  change Hid (Calls Tryz.prog 13 #[.pointer (some ⟨jb, 0, none⟩), .slice (some ⟨w7.heap.size, 0, none⟩) 1 1] (w7.alloc (.cells #[.string ⟨y.toArray⟩] 9)) _) at HA
  go_wp2_with fail
  refine HA.out.mono ?_
  rintro e w8 ⟨F4, G4, hs, ⟨c', S', al', _, _, _, hlo, _⟩ | ⟨code, hcode, rfl, hj⟩ | ⟨hne, _⟩⟩
  · rw [hys] at hlo; cases hlo
  rotate_left
  · exact absurd rfl hne
  obtain rfl : code = 2 := by
    rcases hcode with ⟨h, _⟩ | ⟨_, h, _⟩
    · exact h
    · rw [hys] at h; cases h
  have J7 := Lib.hid hj
  clear hj hs HA J6 hcode hyl hys hyt hym
  have HF := Lib.hid (ds_fail w w8 F4 d 6 _ 0 0 J7.out.ds (by simp))
  go_wp2_with fail
  refine HF.out.mono ?_
  rintro e w9 ⟨rfl, h9, _⟩
  have HS := Lib.hid (ds_start w w9 F4 d 6 _ h9)
  clear h9 HF
  go_wp2_with fail
  refine HS.out.mono ?_
  rintro e w10 ⟨rfl, h10, _⟩
  rw [fail_start] at h10
  have HO := Lib.hid (ds_open w w10 F4 d 6 S2 none h10 (by decide))
  have HG := Lib.hid J7.out.good.opn
  clear h10 HS J7
  go_wp2_with fail
  refine HO.out.mono ?_
  rintro e w11 (⟨hno, _⟩ | ⟨_, _, _, hne, _⟩ | ⟨c, recs, hop, kb, mv, F5, G5, S3, al3, rfl, hst, hal, _, _, hrs⟩)
  · exact absurd ⟨_, _, HG.out⟩ hno
  · exact absurd rfl hne
  obtain ⟨rfl, rfl⟩ := hop.same HG.out
  obtain rfl := hal rfl
  obtain ⟨ma, mc, rfl⟩ : ∃ ma mc, mv = .slice ma 2 mc := by
    rcases hrs.own.2 with ⟨_, h⟩ | ⟨g, cap, _, rfl, _⟩
    · cases h
    · exact ⟨_, _, rfl⟩
  have J8 := Lib.hid hst
  have R8 := Lib.hid (hrs.weak (Y := F5) fun _ _ h => Or.inl h)
  clear hal hst hrs hop HO HG
  have HR := Lib.hid (ds_rot w w11 F5 d 6 _ 0 5 1 J8.out.ds)
  go_wp2_with fail
  refine HR.out.mono ?_
  rintro e w12 ⟨rfl, h12, s12⟩
  obtain ⟨S4, e4, _, _, o4, _⟩ := rot_good (al := none) J8.out.good J8.out.ds.dat.vd.sec (by decide) 0 5 1
  have o4 := o4 (by decide)
  rw [e4] at h12
  have K12 := Lib.hid (J8.out.jat.stp s12 J8.out.sep)
  have R12 := Lib.hid (R8.out.stp s12)
  have HO := Lib.hid (ds_open w w12 F5 d 6 S4 none h12 (by decide))
  clear h12 s12 e4 HR J8 R8
  go_wp2_with fail
  refine HO.out.mono ?_
  rintro e w13 (⟨hno, _⟩ | ⟨_, _, _, hne, _⟩ | ⟨c, recs, hop, lb, nv, F6, G6, S5, al5, rfl, hst, hal, s13, _, hrs⟩)
  · exact absurd ⟨_, _, o4⟩ hno
  · exact absurd rfl hne
  obtain ⟨rfl, rfl⟩ := hop.same o4
  obtain rfl := hal rfl
  obtain ⟨na, nc, rfl⟩ : ∃ na nc, nv = .slice na 2 nc := by
    rcases hrs.own.2 with ⟨_, h⟩ | ⟨g, cap, _, rfl, _⟩
    · cases h
    · exact ⟨_, _, rfl⟩
  have J9 := Lib.hid hst
  have N9 := Lib.hid (hrs.weak (Y := F6) fun _ _ h => Or.inl h)
  have K13 := Lib.hid (K12.out.1.stp s13 K12.out.2)
  have R13 := Lib.hid (R12.out.stp s13)
  clear hal hst hrs hop HO o4 K12 R12 s13
  have HR := Lib.hid (ds_rot w w13 F6 d 6 _ 2 40 1 J9.out.ds)
  go_wp2_with fail
  refine HR.out.mono ?_
  rintro e w14 ⟨rfl, h14, s14⟩
  obtain ⟨S6, e6, _, _, _, o6⟩ := rot_good (al := none) J9.out.good J9.out.ds.dat.vd.sec (by decide) 2 40 1
  have o6 := o6 (by decide)
  rw [e6] at h14
  have K14 := Lib.hid (K13.out.1.stp s14 K13.out.2)
  have R14 := Lib.hid (R13.out.stp s14)
  have N14 := Lib.hid (N9.out.stp s14)
  have HO := Lib.hid (ds_open w w14 F6 d 6 S6 none h14 (by decide))
  clear h14 s14 e6 HR J9 N9 K13 R13
  go_wp2_with fail
  refine HO.out.mono ?_
  rintro e w15 (⟨_, rfl, hb, hd⟩ | ⟨c, recs, hop, _⟩ | ⟨c, recs, hop, _⟩)
  rotate_left
  · exact absurd hop (o6 _ _)
  · exact absurd hop (o6 _ _)
  have K15 := Lib.hid (K14.out.1.below hb)
  have R15 := Lib.hid (R14.out.stp (Stp.below hb))
  have N15 := Lib.hid (N14.out.stp (Stp.below hb))
  have D15 := Lib.hid hd.bel
  clear hb hd o6 HO K14 R14 N14
  have HN := Lib.hid (new_yes w15 2 (by decide) (by decide))
  change Hid (Calls Tryz.prog 8 #[.int .i64 2] w15 _) at HN
  go_wp2_with fail
  refine HN.out.mono ?_
  rintro e w16 ⟨d2, F7, rfl, g1, g2, _⟩
  have K16 := Lib.hid (K15.out.below g2)
  have R16 := Lib.hid (R15.out.stp (Stp.below g2))
  have N16 := Lib.hid (N15.out.stp (Stp.below g2))
  have D16 := Lib.hid (D15.out.trans (g2.mono D15.out.size))
  have HO := Lib.hid (open_few w16 F7 d2 2 (newD 2) g1 rfl (by decide) (by decide))
  clear g1 g2 HN K15 R15 N15 D15
  go_wp2_with fail
  refine HO.out.mono ?_
  rintro e w17 ⟨_, rfl, hb⟩
  have K17 := Lib.hid (K16.out.below hb)
  have R17 := Lib.hid (R16.out.stp (Stp.below hb))
  have N17 := Lib.hid (N16.out.stp (Stp.below hb))
  have D17 := Lib.hid (D16.out.trans (hb.mono D16.out.size))
  clear hb HO K16 R16 N16 D16
  go_wp2_with fail
  have A1 : Below w17.heap.size w17 (w17.alloc (.cells (strs [aT, bT]).toArray 9)) := (Below.refl _ _).alloc (Nat.le_refl _) _
  have HC := Lib.hid (same_yes _ (.slice ma 2 mc) _ [aT, bT] (R17.out.stp (Stp.below A1)).sr (SR.lit (X := fun _ => False) [aT, bT] (fun x e => e.elim)) (by decide))
  have K18 := Lib.hid (K17.out.below A1)
  have R18 := Lib.hid (R17.out.stp (Stp.below A1))
  have N18 := Lib.hid (N17.out.stp (Stp.below A1))
  have D18 := Lib.hid (D17.out.trans (A1.mono D17.out.size))
  clear A1 K17 R17 N17 D17
  refine HC.out.mono ?_
  rintro e w18 ⟨rfl, hb⟩
  replace K18 := Lib.hid (K18.out.below hb)
  replace R18 := Lib.hid (R18.out.stp (Stp.below hb))
  replace N18 := Lib.hid (N18.out.stp (Stp.below hb))
  replace D18 := Lib.hid (D18.out.trans (hb.mono D18.out.size))
  clear hb HC
  have HC := Lib.hid (records_any w18 G5 kb d 6 _ _ false K18.out)
  go_wp2_with fail
  refine HC.out.mono ?_
  rintro e w19 ⟨g, rfl, ho, hb⟩
  replace R18 := Lib.hid (R18.out.stp (Stp.below hb))
  replace N18 := Lib.hid (N18.out.stp (Stp.below hb))
  replace D18 := Lib.hid (D18.out.trans (hb.mono D18.out.size))
  have HC := Lib.hid (same_yes w19 g (.slice ma 2 mc) [aT, bT] (SR.own (F := fun _ => False) ho (fun _ _ => id)) R18.out.sr (by decide))
  clear hb ho K18
  go_wp2_with fail
  refine HC.out.mono ?_
  rintro e w20 ⟨rfl, hb⟩
  replace R18 := Lib.hid (R18.out.stp (Stp.below hb))
  replace N18 := Lib.hid (N18.out.stp (Stp.below hb))
  replace D18 := Lib.hid (D18.out.trans (hb.mono D18.out.size))
  clear hb HC
  have HC := Lib.hid (same_yes w20 (.slice na 2 nc) (.slice ma 2 mc) [aT, bT] N18.out.sr R18.out.sr (by decide))
  go_wp2_with fail
  refine HC.out.mono ?_
  rintro e w21 ⟨rfl, hb⟩
  replace D18 := Lib.hid (D18.out.trans (hb.mono D18.out.size))
  clear hb HC R18 N18
  have HC := Lib.hid (append_nil w21)
  go_wp2_with fail
  refine HC.out.mono ?_
  rintro e w22 ⟨rfl, hb⟩
  replace D18 := Lib.hid (D18.out.trans (hb.mono D18.out.size))
  clear hb HC
  go_wp2_with fail
  go_ret
  exact ⟨rfl, D18.out⟩
end Go.Proofs.YtihoomlaggihlaaGreatDoor
