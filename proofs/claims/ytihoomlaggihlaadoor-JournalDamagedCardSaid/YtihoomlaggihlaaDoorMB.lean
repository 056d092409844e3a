/- The law Damaged, walked. Under the condition that the tables lie in memory as the program lays them and each string is shorter than 2^48 bytes. -/
import Derived.Test.YtihoomlaggihlaaDoorLJ
namespace Go.Proofs.YtihoomlaggihlaaDoor
open Go.RowKit
set_option maxHeartbeats 16000000 in
set_option maxRecDepth 100000 in
theorem damaged_walk (w : World) (A : Option Addr) (cp : Nat) (s : Int) (l : List ROp) (i x m : Int) (hL : Laid w) (hR : RdP w A l) (hS : ∀ o ∈ l, ∀ t ∈ o.list, t.length ≤ 281474976710656) :
    Calls Tryd.prog 4 #[.int .i64 s, .slice A l.length cp, .int .u8 i, .int .u8 x, .int .u8 m] w (Yes w) := by
  have HL := Lib.hid hL
  have HR := Lib.hid hR
  have HS := Lib.hid hS
  clear hL hR hS
  go_enter Tryd.func4, Tryd.ntmps4
  go_wp2_with fail
  refine (head_walk w HL.out).mono ?_
  rintro e w1 ⟨rfl, hb⟩
  have B := Lib.hid hb
  clear hb
  have HI := Lib.hid (light_any w1 A cp s l (HR.out.below B.out) HS.out)
  go_wp2_with fail
  refine HI.out.mono ?_
  rintro e w2 ⟨b, rfl, hb, hl⟩
  replace B := Lib.hid (B.out.trans (hb.mono B.out.size))
  clear HI hb
  rcases b with _ | _
  · clear hl
    go_wp2_with fail
    go_ret
    exact ⟨rfl, B.out⟩
  have HLt := Lib.hid (hl rfl)
  clear hl
  by_cases h3 : s < 3
  · have HF := Lib.hid (filled_few w2 A cp s l h3)
    go_wp2_with fail
    refine HF.out.mono ?_
    rintro e w3 ⟨hb, dv, av, rfl⟩
    replace B := Lib.hid (B.out.trans (hb.mono B.out.size))
    clear HF hb
    go_wp2_with fail
    go_ret
    exact ⟨rfl, B.out⟩
  obtain ⟨n, rfl⟩ : ∃ n : Nat, s = n := ⟨s.toNat, by omega⟩
  replace h3 : 3 ≤ n := by omega
  have hn40 := HLt.out.s40
  have HF := Lib.hid (filled_ds w w2 A cp n l (HR.out.below B.out) HLt.out HL.out B.out h3)
  clear B
  go_wp2_with fail
  refine HF.out.mono ?_
  rintro e w3 ⟨F, G, d, jb, c, S, recs, av, rfl, hj, hr, _, hlen⟩
  have J := Lib.hid hj
  have R := Lib.hid hr
  clear HF hj hr HLt
  have hn0 : ¬ (n : Int) = 0 := by omega
  have HC := Lib.hid (fun i x m => ds_rot w w3 F d n _ i x m J.out.ds)
  go_wp2_with fail
  refine (HC.out _ _ _).mono ?_
  rintro e w4 ⟨rfl, h4, s4⟩
  obtain ⟨S1, e1, _, o1, _⟩ := rot_good (al := none) J.out.good J.out.ds.dat.vd.sec (by omega) _ _ _
  rw [e1] at h4
  replace R := Lib.hid ((R.out.weak (Y := F) fun _ _ h => Or.inl h).stp s4)
  clear e1 s4 HC J
  have HC := Lib.hid (ds_open w w4 F d n S1 none h4 h3)
  clear h4
  go_wp2_with fail
  refine HC.out.mono ?_
  rintro e w5 (⟨_, rfl, hb, hd⟩ | ⟨_, _, _, hne, _⟩ | ⟨c2, recs2, hop, kb, gv, F1, G1, S2, al2, rfl, hst, hal, s5, _, hrs⟩)
  · have B := Lib.hid hd.bel
    clear hd hb HC o1
    go_wp2_with fail
    go_ret
    exact ⟨rfl, B.out⟩
  · exact absurd rfl hne
  rcases o1 with o1 | o1
  rotate_left
  · exact absurd hop (o1 _ _)
  obtain ⟨rfl, rfl⟩ := hop.same o1
  replace R := Lib.hid (R.out.stp s5)
  have B := Lib.hid hst.ds.bel
  have R1 := Lib.hid (hrs.weak (Y := F1) fun _ _ h => Or.inl h)
  clear hal hst hrs hop o1 s5 HC
  have HC := Lib.hid (same_yes w5 gv av _ R1.out.sr R.out.sr (by omega))
  go_wp2_with fail
  refine HC.out.mono ?_
  rintro e w6 ⟨rfl, hb⟩
  replace B := Lib.hid (B.out.trans (hb.mono B.out.size))
  clear hb HC
  go_wp2_with fail
  go_ret
  exact ⟨rfl, B.out⟩
end Go.Proofs.YtihoomlaggihlaaDoor
