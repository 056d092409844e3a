/- The law Broken, walked. Under the condition that the tables lie in memory as the program lays them and each string is shorter than 2^48 bytes. -/
import Derived.Test.YtihoomlaggihlaaDoorLJ
namespace Go.Proofs.YtihoomlaggihlaaDoor
open Go.RowKit
set_option maxHeartbeats 16000000 in
set_option maxRecDepth 100000 in
theorem broken_walk (w : World) (A : Option Addr) (cp : Nat) (s : Int) (l : List ROp) (a b : Int) (hL : Laid w) (hR : RdP w A l) (hS : ∀ o ∈ l, ∀ t ∈ o.list, t.length ≤ 281474976710656) :
    Calls Tryd.prog 5 #[.int .i64 s, .slice A l.length cp, .int .i64 a, .int .i64 b] w (Yes w) := by
  have HL := Lib.hid hL
  have HR := Lib.hid hR
  have HS := Lib.hid hS
  clear hL hR hS
  go_enter Tryd.func5, Tryd.ntmps5
  go_wp2_with fail
  refine (head_walk w HL.out).mono ?_
  rintro e w1 ⟨rfl, hb⟩
  have B := Lib.hid hb
  clear hb
  have HI := Lib.hid (light_any w1 A cp s l (HR.out.below B.out) HS.out)
  go_wp2_with fail
  refine HI.out.mono ?_
  rintro e w2 ⟨b, rfl, hb, hl⟩
  replace B := Lib.hid (B.out.trans (hb.mono B.out.size))
  clear HI hb
  rcases b with _ | _
  · clear hl
    go_wp2_with fail
    go_ret
    exact ⟨rfl, B.out⟩
  have HLt := Lib.hid (hl rfl)
  clear hl
  by_cases h3 : s < 3
  · have HF := Lib.hid (filled_few w2 A cp s l h3)
    go_wp2_with fail
    refine HF.out.mono ?_
    rintro e w3 ⟨hb, dv, av, rfl⟩
    replace B := Lib.hid (B.out.trans (hb.mono B.out.size))
    clear HF hb
    go_wp2_with fail
    go_ret
    exact ⟨rfl, B.out⟩
  obtain ⟨n, rfl⟩ : ∃ n : Nat, s = n := ⟨s.toNat, by omega⟩
  replace h3 : 3 ≤ n := by omega
  have hn40 := HLt.out.s40
  have HF := Lib.hid (filled_ds w w2 A cp n l (HR.out.below B.out) HLt.out HL.out B.out h3)
  clear B
  go_wp2_with fail
  refine HF.out.mono ?_
  rintro e w3 ⟨F, G, d, jb, c, S, recs, av, rfl, hj, hr, _, hlen⟩
  have J := Lib.hid hj
  have R := Lib.hid hr
  clear HF hj hr HLt
  have HC := Lib.hid (room_any w3 G jb d n c recs false J.out.jat (by omega))
  go_wp2_with fail
  refine HC.out.mono ?_
  rintro e w4 ⟨rfl, hb⟩
  replace J := Lib.hid (J.out.below hb)
  replace R := Lib.hid (R.out.stp (Stp.below hb))
  clear hb HC
  have HC := Lib.hid (ds_fail w w4 F d n _ a b J.out.ds (by simp))
  go_wp2_with fail
  refine HC.out.mono ?_
  rintro e w5 ⟨rfl, h5, s5⟩
  rw [fail_on] at h5
  have D := Lib.hid h5
  have K := Lib.hid (J.out.jat.stp s5 J.out.sep)
  replace R := Lib.hid (R.out.stp (s5.wide G))
  have HG := Lib.hid J.out.good.opn
  have HE := Lib.hid J.out.gge
  clear h5 s5 HC J
  have A1 : Below w5.heap.size w5 (w5.alloc (.cells (strs [[97]]).toArray 9)) := (Below.refl _ _).alloc (Nat.le_refl _) _
  have HC := Lib.hid (js_off w _ F G d jb n c S recs [[97]] _ (D.out.below A1) (K.out.1.below A1) K.out.2 HE.out h3 (SR.lit [[97]] (fun x e => e.elim (D.out.dat.lt x) (K.out.1.lt x))) (by simp) (by decide) (by simp) (by simp) (by rw [textP_a]; simp) (by simp; omega))
  replace R := Lib.hid (R.out.stp (Stp.below A1))
  clear A1
  rw [pieces_a] at HC
  change Hid (Calls Tryd.prog 18 #[.pointer (some ⟨jb, 0, none⟩), .slice (some ⟨w5.heap.size, 0, none⟩) 1 1] (w5.alloc (.cells #[.string ⟨#[97]⟩] 9)) _) at HC
  go_wp2_with fail
  refine HC.out.mono ?_
  rintro e w6 ⟨F1, G1, s6, hs6, hd, hor⟩
  replace R := Lib.hid (R.out.stp s6)
  clear HC D K HE
  have D := Lib.hid hd
  have KS := Lib.hid hs6
  clear s6 hs6 hd
  have HC := Lib.hid (open_off w6 F1 d n _ D.out.dat rfl)
  rcases hor with ⟨hc, rfl, hk⟩ | ⟨hc, rfl, hk⟩
  · have K := Lib.hid hk
    have e0 : n - 2 - c = 0 := by omega
    clear hk hc
    go_wp2_with fail
    refine HC.out.mono ?_
    rintro e w7 ⟨rfl, hb⟩
    replace D := Lib.hid (D.out.below hb)
    replace K := Lib.hid (K.out.below hb)
    replace R := Lib.hid (R.out.stp (Stp.below hb))
    clear hb HC
    have HC := Lib.hid (ds_start w w7 F1 d n _ D.out)
    clear D
    go_wp2_with fail
    refine HC.out.mono ?_
    rintro e w8 ⟨rfl, h8, s8⟩
    rw [start_off] at h8
    have D := Lib.hid h8
    replace K := Lib.hid (K.out.stp s8 KS.out).1
    replace R := Lib.hid (R.out.stp (s8.wide G1))
    clear h8 s8 HC
    have A1 : Below w8.heap.size w8 (w8.alloc (.cells (strs [[97]]).toArray 9)) := (Below.refl _ _).alloc (Nat.le_refl _) _
    have HC := Lib.hid (append_room _ G1 jb d n c recs [[97]] _ (K.out.below A1) (by omega) (D.out.below A1).lay (SR.lit (X := fun _ => False) [[97]] (fun x e => e.elim)) (by simp) (by simp) (by decide) (by rw [textP_a]; simp) (by rw [pieces_a]; omega))
    replace D := Lib.hid (D.out.below A1)
    replace R := Lib.hid (R.out.stp (Stp.below A1))
    clear A1
    change Hid (Calls Tryd.prog 18 #[.pointer (some ⟨jb, 0, none⟩), .slice (some ⟨w8.heap.size, 0, none⟩) 1 1] (w8.alloc (.cells #[.string ⟨#[97]⟩] 9)) _) at HC
    go_wp2_with fail
    refine HC.out.mono ?_
    rintro e w9 ⟨rfl, hb⟩
    replace D := Lib.hid (D.out.below hb)
    replace R := Lib.hid (R.out.stp (Stp.below hb))
    clear hb HC K
    have HC := Lib.hid (ds_open w w9 F1 d n S none D.out h3)
    clear D
    go_wp2_with fail
    refine HC.out.mono ?_
    rintro e w10 (⟨hno, _⟩ | ⟨_, _, _, hne, _⟩ | ⟨c2, recs2, hop, kb, gv, F2, G2, S2, al2, rfl, hst, hal, s10, _, hrs⟩)
    · exact absurd ⟨_, _, HG.out⟩ hno
    · exact absurd rfl hne
    obtain ⟨rfl, rfl⟩ := hop.same HG.out
    replace R := Lib.hid ((R.out.weak (Y := F1) fun _ _ h => Or.inl h).stp s10)
    have B := Lib.hid hst.ds.bel
    have R1 := Lib.hid (hrs.weak (Y := F2) fun _ _ h => Or.inl h)
    clear hal hst hrs hop s10 HG HC
    have HC := Lib.hid (same_yes w10 gv av _ R1.out.sr R.out.sr (by omega))
    rw [e0] at *
    go_wp2_with fail
    refine HC.out.mono ?_
    rintro e w11 ⟨rfl, hb⟩
    replace B := Lib.hid (B.out.trans (hb.mono B.out.size))
    clear hb HC
    go_wp2_with fail
    go_ret
    exact ⟨rfl, B.out⟩
  · have K := Lib.hid hk
    have e0 : ¬ ((n - 2 - c : Nat) : Int) = 0 := by omega
    clear hk hc
    go_wp2_with fail
    refine HC.out.mono ?_
    rintro e w7 ⟨rfl, hb⟩
    replace D := Lib.hid (D.out.below hb)
    replace K := Lib.hid (K.out.below hb)
    replace R := Lib.hid (R.out.stp (Stp.below hb))
    clear hb HC
    have HC := Lib.hid (ds_start w w7 F1 d n _ D.out)
    clear D
    go_wp2_with fail
    refine HC.out.mono ?_
    rintro e w8 ⟨rfl, h8, s8⟩
    rw [start_off] at h8
    have D := Lib.hid h8
    replace K := Lib.hid (K.out.stp s8 KS.out).1
    replace R := Lib.hid (R.out.stp (s8.wide G1))
    clear h8 s8 HC
    have A1 : Below w8.heap.size w8 (w8.alloc (.cells (strs [[97]]).toArray 9)) := (Below.refl _ _).alloc (Nat.le_refl _) _
    replace K := Lib.hid (K.out.below A1)
    replace D := Lib.hid (D.out.below A1)
    replace R := Lib.hid (R.out.stp (Stp.below A1))
    have HC := Lib.hid (append_broken _ G1 jb d n c recs (.slice (some ⟨w8.heap.size, 0, none⟩) 1 1) K.out)
    clear A1
    change Hid (Calls Tryd.prog 18 #[.pointer (some ⟨jb, 0, none⟩), .slice (some ⟨w8.heap.size, 0, none⟩) 1 1] (w8.alloc (.cells #[.string ⟨#[97]⟩] 9)) _) at HC
    go_wp2_with fail
    refine HC.out.mono ?_
    rintro e w9 ⟨rfl, hb⟩
    replace D := Lib.hid (D.out.below hb)
    replace K := Lib.hid (K.out.below hb)
    replace R := Lib.hid (R.out.stp (Stp.below hb))
    clear hb HC
    have HC := Lib.hid (ds_open w w9 F1 d n S none D.out h3)
    clear D
    go_wp2_with fail
    refine HC.out.mono ?_
    rintro e w10 (⟨hno, _⟩ | ⟨_, _, _, hne, _⟩ | ⟨c2, recs2, hop, kb, gv, F2, G2, S2, al2, rfl, hst, hal, s10, _, hrs⟩)
    · exact absurd ⟨_, _, HG.out⟩ hno
    · exact absurd rfl hne
    obtain ⟨rfl, rfl⟩ := hop.same HG.out
    replace K := Lib.hid (K.out.stp s10 KS.out).1
    replace R := Lib.hid ((R.out.weak (Y := F1) fun _ _ h => Or.inl h).stp s10)
    have B := Lib.hid hst.ds.bel
    have R1 := Lib.hid (hrs.weak (Y := F2) fun _ _ h => Or.inl h)
    clear hal hst hrs hop s10 HG HC
    have HC := Lib.hid (records_any w10 G1 jb d n _ _ true K.out)
    go_wp2_with fail
    refine HC.out.mono ?_
    rintro e w11 ⟨g, rfl, ho, hb⟩
    replace B := Lib.hid (B.out.trans (hb.mono B.out.size))
    replace K := Lib.hid (K.out.below hb)
    replace R := Lib.hid (R.out.stp (Stp.below hb))
    replace R1 := Lib.hid (R1.out.stp (Stp.below hb))
    have HC := Lib.hid (same_yes w11 g av _ (SR.own (F := fun _ => False) ho (fun _ _ => id)) R.out.sr (by omega))
    clear hb ho
    go_wp2_with fail
    refine HC.out.mono ?_
    rintro e w12 ⟨rfl, hb⟩
    replace B := Lib.hid (B.out.trans (hb.mono B.out.size))
    replace K := Lib.hid (K.out.below hb)
    replace R := Lib.hid (R.out.stp (Stp.below hb))
    replace R1 := Lib.hid (R1.out.stp (Stp.below hb))
    clear hb HC
    have HC := Lib.hid (room_any w12 G1 jb d n _ _ true K.out (by omega))
    go_wp2_with fail
    refine HC.out.mono ?_
    rintro e w13 ⟨rfl, hb⟩
    replace B := Lib.hid (B.out.trans (hb.mono B.out.size))
    replace R := Lib.hid (R.out.stp (Stp.below hb))
    replace R1 := Lib.hid (R1.out.stp (Stp.below hb))
    clear hb HC K
    have HC := Lib.hid (same_yes w13 gv av _ R1.out.sr R.out.sr (by omega))
    go_wp2_with fail
    refine HC.out.mono ?_
    rintro e w14 ⟨rfl, hb⟩
    replace B := Lib.hid (B.out.trans (hb.mono B.out.size))
    clear hb HC
    go_wp2_with fail
    go_ret
    exact ⟨rfl, B.out⟩
end Go.Proofs.YtihoomlaggihlaaDoor
