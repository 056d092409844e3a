/- The law Durable, walked. Under the condition that the tables lie in memory as the program lays them and each string is shorter than 2^48 bytes. -/
import Derived.Test.YtihoomlaggihlaaDoorLJ
namespace Go.Proofs.YtihoomlaggihlaaDoor
open Go.RowKit
set_option maxHeartbeats 16000000 in
set_option maxRecDepth 100000 in
theorem durable_walk (w : World) (A : Option Addr) (cp : Nat) (s : Int) (l : List ROp) (a b : Int) (hL : Laid w) (hR : RdP w A l) (hS : ∀ o ∈ l, ∀ t ∈ o.list, t.length ≤ 281474976710656) :
    Calls Tryd.prog 3 #[.int .i64 s, .slice A l.length cp, .int .i64 a, .int .i64 b] w (Yes w) := by
  have HL := Lib.hid hL
  have HR := Lib.hid hR
  have HS := Lib.hid hS
  clear hL hR hS
  go_enter Tryd.func3, Tryd.ntmps3
  go_wp2_with fail
  refine (head_walk w HL.out).mono ?_
  rintro e w1 ⟨rfl, hb⟩
  have B := Lib.hid hb
  clear hb
  have HI := Lib.hid (light_any w1 A cp s l (HR.out.below B.out) HS.out)
  go_wp2_with fail
  refine HI.out.mono ?_
  rintro e w2 ⟨b, rfl, hb, hl⟩
  replace B := Lib.hid (B.out.trans (hb.mono B.out.size))
  clear HI hb
  rcases b with _ | _
  · clear hl
    go_wp2_with fail
    go_ret
    exact ⟨rfl, B.out⟩
  have HLt := Lib.hid (hl rfl)
  clear hl
  by_cases h3 : s < 3
  · have HF := Lib.hid (filled_few w2 A cp s l h3)
    go_wp2_with fail
    refine HF.out.mono ?_
    rintro e w3 ⟨hb, dv, av, rfl⟩
    replace B := Lib.hid (B.out.trans (hb.mono B.out.size))
    clear HF hb
    go_wp2_with fail
    go_ret
    exact ⟨rfl, B.out⟩
  obtain ⟨n, rfl⟩ : ∃ n : Nat, s = n := ⟨s.toNat, by omega⟩
  replace h3 : 3 ≤ n := by omega
  have hn40 := HLt.out.s40
  have HF := Lib.hid (filled_ds w w2 A cp n l (HR.out.below B.out) HLt.out HL.out B.out h3)
  clear B
  go_wp2_with fail
  refine HF.out.mono ?_
  rintro e w3 ⟨F, G, d, jb, c, S, recs, av, rfl, hj, hr, _, hlen⟩
  have J := Lib.hid hj
  have R := Lib.hid hr
  clear HF hj hr HLt
  have HC := Lib.hid (records_any w3 G jb d n c recs false J.out.jat)
  go_wp2_with fail
  refine HC.out.mono ?_
  rintro e w4 ⟨g, rfl, ho, hb⟩
  replace J := Lib.hid (J.out.below hb)
  replace R := Lib.hid (R.out.stp (Stp.below hb))
  have HC := Lib.hid (same_yes w4 g av recs (SR.own (F := fun _ => False) ho (fun _ _ => id)) R.out.sr (by omega))
  clear hb ho
  go_wp2_with fail
  refine HC.out.mono ?_
  rintro e w5 ⟨rfl, hb⟩
  replace J := Lib.hid (J.out.below hb)
  replace R := Lib.hid (R.out.stp (Stp.below hb))
  clear hb HC
  have HC := Lib.hid (ds_fail w w5 F d n _ a b J.out.ds (by simp))
  go_wp2_with fail
  refine HC.out.mono ?_
  rintro e w6 ⟨rfl, h6, s6⟩
  have K := Lib.hid (J.out.jat.stp s6 J.out.sep)
  replace R := Lib.hid ((R.out.weak (Y := F) fun _ _ h => Or.inl h).stp s6)
  have HG := Lib.hid J.out.good.opn
  clear J s6
  have HC := Lib.hid (ds_start w w6 F d n _ h6)
  clear h6
  go_wp2_with fail
  refine HC.out.mono ?_
  rintro e w7 ⟨rfl, h7, s7⟩
  rw [fail_start] at h7
  replace K := Lib.hid (K.out.1.stp s7 K.out.2)
  replace R := Lib.hid (R.out.stp s7)
  have HC := Lib.hid (ds_open w w7 F d n S none h7 h3)
  clear h7 s7
  go_wp2_with fail
  refine HC.out.mono ?_
  rintro e w8 (⟨hno, _⟩ | ⟨_, _, _, hne, _⟩ | ⟨c2, recs2, hop, kb, gv, F1, G1, S1, al1, rfl, hst, hal, s8, _, hrs⟩)
  · exact absurd ⟨_, _, HG.out⟩ hno
  · exact absurd rfl hne
  obtain ⟨rfl, rfl⟩ := hop.same HG.out
  obtain rfl := hal rfl
  replace K := Lib.hid (K.out.1.stp s8 K.out.2)
  replace R := Lib.hid (R.out.stp s8)
  have J := Lib.hid hst
  have R1 := Lib.hid (hrs.weak (Y := F1) fun _ _ h => Or.inl h)
  clear hal hst hrs hop s8 HG HC
  have HC := Lib.hid (ds_open w w8 F1 d n S1 none J.out.ds h3)
  go_wp2_with fail
  refine HC.out.mono ?_
  rintro e w9 (⟨hno, _⟩ | ⟨_, _, _, hne, _⟩ | ⟨c2, recs2, hop, lb, hv, F2, G2, S2, al2, rfl, hst, hal, s9, _, hrs⟩)
  · exact absurd ⟨_, _, J.out.good.opn⟩ hno
  · exact absurd rfl hne
  obtain ⟨rfl, rfl⟩ := hop.same J.out.good.opn
  replace K := Lib.hid (K.out.1.stp s9 K.out.2).1
  have K1 := Lib.hid (J.out.jat.stp s9 J.out.sep).1
  replace R := Lib.hid (R.out.stp s9)
  replace R1 := Lib.hid (R1.out.stp s9)
  have B := Lib.hid hst.ds.bel
  have R2 := Lib.hid (hrs.weak (Y := F2) fun _ _ h => Or.inl h)
  clear hal hst hrs hop s9 J HC
  have HC := Lib.hid (same_yes w9 gv av _ R1.out.sr R.out.sr (by omega))
  go_wp2_with fail
  refine HC.out.mono ?_
  rintro e w10 ⟨rfl, hb⟩
  replace B := Lib.hid (B.out.trans (hb.mono B.out.size))
  replace K := Lib.hid (K.out.below hb)
  replace K1 := Lib.hid (K1.out.below hb)
  replace R := Lib.hid (R.out.stp (Stp.below hb))
  replace R2 := Lib.hid (R2.out.stp (Stp.below hb))
  clear hb HC
  clear R1
  have HC := Lib.hid (same_yes w10 hv av _ R2.out.sr R.out.sr (by omega))
  go_wp2_with fail
  refine HC.out.mono ?_
  rintro e w11 ⟨rfl, hb⟩
  replace B := Lib.hid (B.out.trans (hb.mono B.out.size))
  replace K := Lib.hid (K.out.below hb)
  replace K1 := Lib.hid (K1.out.below hb)
  replace R := Lib.hid (R.out.stp (Stp.below hb))
  clear hb HC
  clear R2
  have HC := Lib.hid (records_any w11 G1 kb d n _ _ false K1.out)
  go_wp2_with fail
  refine HC.out.mono ?_
  rintro e w12 ⟨g, rfl, ho, hb⟩
  replace B := Lib.hid (B.out.trans (hb.mono B.out.size))
  replace K := Lib.hid (K.out.below hb)
  replace K1 := Lib.hid (K1.out.below hb)
  replace R := Lib.hid (R.out.stp (Stp.below hb))
  have HC := Lib.hid (same_yes w12 g av _ (SR.own (F := fun _ => False) ho (fun _ _ => id)) R.out.sr (by omega))
  clear hb ho
  go_wp2_with fail
  refine HC.out.mono ?_
  rintro e w13 ⟨rfl, hb⟩
  replace B := Lib.hid (B.out.trans (hb.mono B.out.size))
  replace K := Lib.hid (K.out.below hb)
  replace K1 := Lib.hid (K1.out.below hb)
  clear hb HC
  have HC := Lib.hid (room_any w13 G1 kb d n _ _ false K1.out (by omega))
  go_wp2_with fail
  refine HC.out.mono ?_
  rintro e w14 ⟨rfl, hb⟩
  replace B := Lib.hid (B.out.trans (hb.mono B.out.size))
  replace K := Lib.hid (K.out.below hb)
  clear hb HC
  clear K1
  have HC := Lib.hid (room_any w14 G jb d n _ _ false K.out (by omega))
  go_wp2_with fail
  refine HC.out.mono ?_
  rintro e w15 ⟨rfl, hb⟩
  replace B := Lib.hid (B.out.trans (hb.mono B.out.size))
  clear hb HC
  go_wp2_with fail
  go_ret
  exact ⟨rfl, B.out⟩
end Go.Proofs.YtihoomlaggihlaaDoor
