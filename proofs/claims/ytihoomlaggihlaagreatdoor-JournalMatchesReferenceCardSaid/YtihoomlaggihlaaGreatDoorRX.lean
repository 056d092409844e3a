/- The law that compares a journal with the reference's, walked. Under the condition that the tables lie in memory as the program lays them, each string is shorter than 2^48 bytes, and numbers are in their types' range. -/
import Derived.Test.YtihoomlaggihlaaGreatDoorRO
namespace Go.Proofs.YtihoomlaggihlaaGreatDoor
open Go.RowKit

theorem rs_off {w0 w : World} {X : Nat → Prop} {v : Value} {xs : List (List UInt8)} (h : RS w0 X v xs w) : SR w (fun _ => False) v xs := h.sr.zero
/-- a row made anew lies apart from the other side -/
theorem rs_new {w0 w w' : World} {X Y : Nat → Prop} {v : Value} {xs : List (List UInt8)} (h : RS w0 X v xs w') (hn : ∀ k, v.ownBlock = some k → w.heap.size ≤ k) (hY : ∀ k, Y k → k < w.heap.size) : RS w0 (fun k => X k ∨ Y k) v xs w' :=
  ⟨h.own, fun x hx e => e.elim (h.far x hx) (fun e => by have := hn x hx; have := hY x e; omega)⟩
theorem rs_new2 {w0 w w' : World} {X Y : Nat → Prop} {v : Value} {xs : List (List UInt8)} (h : RS w0 Y v xs w') (hn : ∀ k, v.ownBlock = some k → w.heap.size ≤ k) (hX : ∀ k, X k → k < w.heap.size) : RS w0 (fun k => X k ∨ Y k) v xs w' :=
  ⟨h.own, fun x hx e => e.elim (fun e => by have := hn x hx; have := hX x e; omega) (h.far x hx)⟩
theorem opn_bound {n : Nat} {D D1 : PD} {c : Int} {J : Jn} (h : OpnR n D c D1 J) (hn : n ≤ 40) : (recsOf J).length ≤ 2000 := h.recs hn
theorem raw_same {w0 w : World} {X Y : Nat → Prop} {d b n : Nat} {D : PD} {jv kv : Value} {J : Jn} (h : BS w0 X Y d b n D D jv kv J J w) :
    (Calls Tryz.prog 29 #[.pointer (some ⟨d, 0, none⟩)] w fun e w' => e = .returned (.string ⟨D.ss.flatten.toArray⟩) ∧ w = w') ∧ Calls Tryz.prog 30 #[.pointer (some ⟨b, 0, none⟩)] w fun e w' => e = .returned (.string ⟨D.ss.flatten.toArray⟩) ∧ Below w.heap.size w w' := by
  obtain ⟨F, h1, _⟩ := h.M.mem
  obtain ⟨G, g1, _⟩ := h.T.mem
  exact ⟨raw_any w F d n D h1, rraw_any w G b n D g1⟩
set_option maxHeartbeats 64000000 in
set_option maxRecDepth 100000 in
theorem match_walk (w : World) (A : Option Addr) (cp : Nat) (s : Int) (l : List ROp) (hL : Laid w) (hR : RdP w A l) (hS : ∀ o ∈ l, ∀ t ∈ o.list, t.length ≤ 281474976710656) (hI : ∀ o ∈ l, o.spot ≤ 9223372036854775807) :
    Calls Tryz.prog 4 #[.int .i64 s, .slice A l.length cp] w (Yes w) := by
  have HL := Lib.hid hL
  have HR := Lib.hid hR
  have HS := Lib.hid hS
  have HI := Lib.hid hI
  clear hL hR hS hI
  go_enter Tryz.func4, Tryz.ntmps4
  go_wp2_with fail
  refine (head_walk w HL.out).mono ?_
  rintro e w1 ⟨rfl, hb⟩
  have B := Lib.hid hb
  clear hb
  have HT := Lib.hid (light_any w1 A cp s l (HR.out.below B.out) HS.out)
  go_wp2_with fail
  refine HT.out.mono ?_
  rintro e w2 ⟨b, rfl, hb, hl⟩
  replace B := Lib.hid (B.out.trans (hb.mono B.out.size))
  clear HT hb
  rcases b with _ | _
  · clear hl
    go_wp2_with fail
    go_ret
    exact ⟨rfl, B.out⟩
  have HLt := Lib.hid (hl rfl)
  clear hl
  by_cases h1 : s < 1
  · go_wp2_with fail
    refine (new_no w2 s (Or.inl h1)).mono ?_
    rintro e w3 ⟨rfl, rfl⟩
    go_wp2_with fail
    refine (rnew_no w2 s (Or.inl h1)).mono ?_
    rintro e w3 ⟨rfl, rfl⟩
    go_wp2_with fail
    refine (open_nil w2).mono ?_
    rintro e w3 ⟨rfl, rfl⟩
    go_wp2_with fail
    go_ret
    exact ⟨rfl, B.out⟩
  obtain ⟨n, rfl⟩ : ∃ n : Nat, s = n := ⟨s.toNat, by omega⟩
  have hn40 := HLt.out.s40
  have HC := Lib.hid (new_yes w2 n (by omega) (by omega))
  go_wp2_with fail
  refine HC.out.mono ?_
  rintro e w3 ⟨d, F0, rfl, hd, hb, hge⟩
  have M0 : Hid (MS w F0 d n (newD n) (.pointer none) none w3) := Lib.hid ⟨⟨B.out.trans (hb.mono B.out.size), fun k e => Nat.le_trans B.out.size (hge k e), hd.lt⟩, F0, hd, fun _ e => e, Or.inl ⟨rfl, rfl⟩⟩
  clear HC hb hge hd B
  have HC := Lib.hid (rnew_yes w3 n (by omega) (by omega))
  go_wp2_with fail
  refine HC.out.mono ?_
  rintro e w4 ⟨b, G0, rfl, hd, hb, hge⟩
  have BB : Hid (BS w F0 G0 d b n (newD n) (newD n) (.pointer none) (.pointer none) none none w4) := Lib.hid ⟨M0.out.below hb, ⟨⟨M0.out.bd.bel.trans (hb.mono M0.out.bd.bel.size), fun k e => Nat.le_trans M0.out.bd.bel.size (hge k e), hd.lt⟩, G0, hd, fun _ e => e, Or.inl ⟨rfl, rfl⟩⟩, fun k x y => by have := M0.out.bd.lt k x; have := hge k y; omega⟩
  clear HC hb hge hd M0
  have HP := Lib.hid (show (newD n).pend = [] from rfl)
  have HC := Lib.hid (ms_open w w4 _ d n (newD n) _ _ BB.out.M HL.out HP.out)
  go_wp2_with fail
  refine HC.out.mono ?_
  rintro e w11 ⟨jvw11, gvw11, codew11, Ew11, Jw11, Xw11, rfl, ho, hm, hs, hr, hnw⟩
  have OR := Lib.hid ho
  have AL := Lib.hid BB.out.M.al
  have RX1 := Lib.hid (rs_new hr hnw BB.out.T.bd.lt)
  replace BB := Lib.hid (BB.out.left hm hs)
  clear HC ho hm hs hr hnw
  have HC := Lib.hid (mt_open w w11 _ b n (newD n) _ _ BB.out.T (by omega) HP.out)
  go_wp2_with fail
  refine HC.out.mono ?_
  rintro e w12 ⟨kvw12, gvw12, codew12, Ew12, Kw12, Yw12, rfl, ho, hm, hs, hr, hnw⟩
  obtain ⟨rfl, rfl, rfl⟩ := OR.out.same ho
  replace HP := Lib.hid (OR.out.pend HP.out AL.out)
  have RY1 := Lib.hid (rs_new2 hr hnw BB.out.M.bd.lt)
  have RX2 := Lib.hid (RX1.out.stp (wideR hs _))
  replace BB := Lib.hid (BB.out.right hm hs)
  clear HC ho hm hs hr hnw AL RX1
  go_wp2_with fail
  go_loopw [11, 12, 13, 14, 15, 16, 17] (fun jv xv ev kv yv fv i wr => ∃ (k : Nat) (X Y : Nat → Prop) (D : PD) (J : Jn) (code : Int) (xs : List (List UInt8)), k ≤ l.length ∧ i = .int .i64 k ∧ ev = .int .i64 code ∧ fv = .int .i64 code ∧ (recsOf J).length ≤ 2000 + 20 * k ∧ xs.length ≤ 2000 ∧ Hid (D.pend = []) ∧ Hid (J ≠ none → 3 ≤ n) ∧ Hid (BS w X Y d b n D D jv kv J J wr) ∧ Hid (RS w (fun k => X k ∨ Y k) xv xs wr) ∧ Hid (RS w (fun k => X k ∨ Y k) yv xs wr)) (fun _ _ _ _ _ _ i _ => l.length - (intOf i).toNat)
  case atStart => exact ⟨0, _, _, _, _, _, _, by omega, rfl, rfl, rfl, by have := OR.out.recs (by omega : n ≤ 40); omega, OR.out.recs (by omega), HP, Lib.hid OR.out.n3, BB, RX2, RY1⟩
  case round =>
    clear BB RX2 RY1 HP OR
    obtain ⟨k, X, Y, D, J, code, xs, hk, rfl, rfl, rfl, hrl, hxl, HP, HN3, BB, RX, RY⟩ := hrel
    have hk0 : (0 : Int) ≤ (k : Int) := Int.natCast_nonneg _
    have hk1 : (k : Int) ≤ (l.length : Int) := by omega
    have h16 := HLt.out.l16
    have HSH := BB.out.shape
    rcases HSH with ⟨rfl, rfl⟩ | ⟨jb, kb, rfl, rfl⟩
    all_goals (
      have HC := Lib.hid (same_yes wr _ _ xs (rs_off RX.out) (rs_off RY.out) (by omega))
      go_wp2_with fail
      refine HC.out.mono ?_
      rintro e w41 ⟨rfl, hb⟩
      replace BB := Lib.hid (BB.out.below hb)
      replace RX := Lib.hid (RX.out.stp (Stp.below hb))
      replace RY := Lib.hid (RY.out.stp (Stp.below hb))
      clear hb HC RX RY
      have HC := Lib.hid (ms_records w w41 _ d n D _ J BB.out.M)
      go_wp2_with fail
      refine HC.out.mono ?_
      rintro e w42 ⟨g1, rfl, hs1, hb⟩
      have S1 := Lib.hid hs1
      replace BB := Lib.hid (BB.out.below hb)
      clear hb HC hs1
      have HC := Lib.hid (mt_records w w42 _ b n D _ J BB.out.T)
      go_wp2_with fail
      refine HC.out.mono ?_
      rintro e w43 ⟨g2, rfl, hs2, hb⟩
      replace S1 := Lib.hid (S1.out.below hb)
      replace BB := Lib.hid (BB.out.below hb)
      have HC := Lib.hid (same_yes w43 g1 g2 (recsOf J) S1.out hs2 (by omega))
      clear hb hs2
      go_wp2_with fail
      refine HC.out.mono ?_
      rintro e w44 ⟨rfl, hb⟩
      replace BB := Lib.hid (BB.out.below hb)
      clear hb HC S1
      have HC := Lib.hid (ms_room w w44 _ d n D _ J BB.out.M)
      go_wp2_with fail
      refine HC.out.mono ?_
      rintro e w45 ⟨rfl, hb⟩
      replace BB := Lib.hid (BB.out.below hb)
      clear hb HC
      have HC := Lib.hid (mt_room w w45 _ b n D _ J BB.out.T)
      go_wp2_with fail
      refine HC.out.mono ?_
      rintro e w46 ⟨rfl, hb⟩
      replace BB := Lib.hid (BB.out.below hb)
      clear hb HC
      generalize roomOf n J = rm at *
      by_cases hlt : k < l.length
      rotate_left
      · obtain rfl : k = l.length := by omega
        have HC := Lib.hid (ms_fail w w46 _ d n D _ J 0 0 BB.out.M HP.out)
        go_wp2_with fail
        refine HC.out.mono ?_
        rintro e w47 ⟨rfl, X1, hm, hs⟩
        replace BB := Lib.hid (BB.out.left hm hs)
        clear HC hm hs
        have HC := Lib.hid (mt_fail w w47 _ b n D _ J 0 0 BB.out.T)
        go_wp2_with fail
        refine HC.out.mono ?_
        rintro e w48 ⟨rfl, Y1, hm, hs⟩
        replace BB := Lib.hid (BB.out.right hm hs)
        clear HC hm hs
        have HC := Lib.hid (ms_start w w48 _ d n _ _ J BB.out.M)
        go_wp2_with fail
        refine HC.out.mono ?_
        rintro e w49 ⟨rfl, X2, hm, hs⟩
        replace BB := Lib.hid (BB.out.left hm hs)
        clear HC hm hs
        have HC := Lib.hid (mt_start w w49 _ b n _ _ J BB.out.T)
        go_wp2_with fail
        refine HC.out.mono ?_
        rintro e w50 ⟨rfl, Y2, hm, hs⟩
        replace BB := Lib.hid (BB.out.right hm hs)
        clear HC hm hs
        have HC := Lib.hid (raw_same BB.out)
        generalize (D.fail 0 0).start.ss.flatten = fl at *
        go_wp2_with fail
        refine HC.out.1.mono ?_
        rintro e w51 ⟨rfl, rfl⟩
        go_wp2_with fail
        refine HC.out.2.mono ?_
        rintro e w52 ⟨rfl, hb⟩
        replace BB := Lib.hid (BB.out.below hb)
        clear hb HC
        go_wp2_with fail
        go_ret
        exact ⟨rfl, BB.out.M.bd.bel⟩
      have hlti : (k : Int) < (l.length : Int) := by omega
      obtain ⟨ab, ao, sv, rfl, p0, p1, p2, p3, p4, hsv0⟩ := HR.out k hlt
      have h20 := HLt.out.l20 _ (List.getElem_mem hlt)
      have hsum : sumLen l[k].list ≤ 6000 := Nat.le_trans (list_sum hlt) HLt.out.sum
      have hspot := HI.out _ (List.getElem_mem hlt)
      have hcw : ∀ j u, w.cell? ⟨ab, ao + k * 5 + j, none⟩ = some u → w46.cell? ⟨ab, ao + k * 5 + j, none⟩ = some u := fun j u hu => (BB.out.M.bd.bel.cell (p := ⟨ab, ao + k * 5 + j, none⟩) (show ab < w.heap.size from cell_lt p0)).trans hu
      have q0 : w46.cell? ⟨ab, ao + k * 5, none⟩ = some (.int .i64 l[k].kind) := hcw 0 _ p0
      have q1 := hcw 1 _ p1
      have q2 := hcw 2 _ p2
      have q3 := hcw 3 _ p3
      have q4 := hcw 4 _ p4
      have HSW := Lib.hid (fun W (Z : Nat → Prop) (hb : Below w.heap.size w W) (hX : ∀ x, Z x → w.heap.size ≤ x) => ((hsv0.old.out (Out.of_below hb)).weak (fun x _ e => Or.inr (hX x e)) : SR W Z sv l[k].list))
      clear hcw p0 p1 p2 p3 p4 hsv0
      obtain ⟨sa, sn, sc, rfl⟩ : ∃ sa sn sc, sv = .slice sa sn sc := by
        obtain ⟨a', c', e, _⟩ := HSW.out w (fun _ => False) (Below.refl _ _) (fun _ e => e.elim)
        exact ⟨_, _, _, e⟩
      generalize l[k].list = xs' at *
      generalize l[k].spot = sp at *
      generalize l[k].writes = wr' at *
      generalize l[k].bytes = by' at *
      generalize l[k].kind = kd at *
      have HTX := Lib.hid (show (textP xs').length ≤ 10000000 by have := textP_dbl xs'; omega)
      have HXL := Lib.hid (fun t (ht : t ∈ xs') => (by have := sum_mem ht; omega : t.length ≤ 10000000))
      have BA := (Gr.one w46 (.cells #[.int .i64 kd, .slice sa sn sc, .int .i64 sp, .int .i64 wr', .int .i64 by'] 36)).below
      have OK : Hid (OB (fun k => X k ∨ Y k) w46.heap.size #[.int .i64 kd, .slice sa sn sc, .int .i64 sp, .int .i64 wr', .int .i64 by'] 36 (w46.alloc (.cells #[.int .i64 kd, .slice sa sn sc, .int .i64 sp, .int .i64 wr', .int .i64 by'] 36))) := Lib.hid ⟨heap_alloc_new w46 _, fun e => e.elim (fun e => by have := BB.out.M.bd.lt _ e; omega) (fun e => by have := BB.out.T.bd.lt _ e; omega)⟩
      replace BB := Lib.hid (BB.out.below BA)
      clear BA
      have HAL := Lib.hid BB.out.M.al
      rcases (show kd = 1 ∨ kd = 2 ∨ kd = 3 ∨ (kd ≠ 1 ∧ kd ≠ 2 ∧ kd ≠ 3) by omega) with rfl | rfl | rfl | ⟨k1, k2, k3⟩
      · have HC := Lib.hid (ms_fail w (w46.alloc (.cells #[.int .i64 1, .slice sa sn sc, .int .i64 sp, .int .i64 wr', .int .i64 by'] 36)) _ d n D _ J wr' by' BB.out.M HP.out)
        go_wp2_with fail
        generalize (w46.alloc (.cells #[.int .i64 1, .slice sa sn sc, .int .i64 sp, .int .i64 wr', .int .i64 by'] 36)) = w60 at *
        generalize w46.heap.size = ob at *
        refine HC.out.mono ?_
        rintro e w61 ⟨rfl, X1, hm, hs⟩
        replace BB := Lib.hid (BB.out.left hm hs)
        replace OK := Lib.hid (OK.out.stp (hs.wide _))
        clear HC hm hs
        have z3 : w61.cell? ⟨ob, 3, none⟩ = some _ := cell_at OK.out.heap rfl
        have z4 : w61.cell? ⟨ob, 4, none⟩ = some _ := cell_at OK.out.heap rfl
        have zl := heap_lt OK.out.heap
        have HC := Lib.hid (mt_fail w w61 _ b n D _ J wr' by' BB.out.T)
        go_wp2_with fail
        refine HC.out.mono ?_
        rintro e w62 ⟨rfl, Y1, hm, hs⟩
        replace BB := Lib.hid (BB.out.right hm hs)
        replace OK := Lib.hid (OK.out.stp (wideR hs _))
        clear HC hm hs z3 z4 zl
        replace HP := Lib.hid (fail_pend D wr' by' HP.out)
        have HC := Lib.hid (ms_start w w62 _ d n _ _ J BB.out.M)
        go_wp2_with fail
        refine HC.out.mono ?_
        rintro e w63 ⟨rfl, X2, hm, hs⟩
        replace BB := Lib.hid (BB.out.left hm hs)
        clear HC hm hs OK
        have HC := Lib.hid (mt_start w w63 _ b n _ _ J BB.out.T)
        go_wp2_with fail
        refine HC.out.mono ?_
        rintro e w64 ⟨rfl, Y2, hm, hs⟩
        replace BB := Lib.hid (BB.out.right hm hs)
        clear HC hm hs
        replace HP : Hid ((D.fail wr' by').start.pend = []) := Lib.hid HP.out
        have HC := Lib.hid (ms_open w w64 _ d n _ _ _ BB.out.M HL.out HP.out)
        go_wp2_with fail
        refine HC.out.mono ?_
        rintro e w13 ⟨jv', gv', code', E', J', X', rfl, ho, hm, hs, hr, hnw⟩
        have OR := Lib.hid ho
        have AL := Lib.hid BB.out.M.al
        have RX1 := Lib.hid (rs_new hr hnw BB.out.T.bd.lt)
        replace BB := Lib.hid (BB.out.left hm hs)
        clear HC ho hm hs hr hnw
        have HC := Lib.hid (mt_open w w13 _ b n _ _ _ BB.out.T (by omega) HP.out)
        go_wp2_with fail
        refine HC.out.mono ?_
        rintro e w14 ⟨kv', gw', code2', E2', K', Y', rfl, ho, hm, hs, hr, hnw⟩
        obtain ⟨rfl, rfl, rfl⟩ := OR.out.same ho
        replace HP := Lib.hid (OR.out.pend HP.out AL.out)
        have RY1 := Lib.hid (rs_new2 hr hnw BB.out.M.bd.lt)
        have RX2 := Lib.hid (RX1.out.stp (wideR hs _))
        replace BB := Lib.hid (BB.out.right hm hs)
        clear HC ho hm hs hr hnw AL RX1
        have hb1 := OR.out.recs (by omega : n ≤ 40)
        go_wp2_with fail
        go_roundw
        case rel => exact ⟨k + 1, _, _, _, _, _, _, by omega, by go_num, rfl, rfl, by omega, hb1, HP, Lib.hid OR.out.n3, BB, RX2, RY1⟩
        case measure => simp [intOf]; omega
      · have HC := Lib.hid (ms_arm w (w46.alloc (.cells #[.int .i64 2, .slice sa sn sc, .int .i64 sp, .int .i64 wr', .int .i64 by'] 36)) _ d n D _ J sp wr' by' BB.out.M hspot)
        go_wp2_with fail
        generalize (w46.alloc (.cells #[.int .i64 2, .slice sa sn sc, .int .i64 sp, .int .i64 wr', .int .i64 by'] 36)) = w60 at *
        generalize w46.heap.size = ob at *
        refine HC.out.mono ?_
        rintro e w61 ⟨rfl, X1, hm, hs⟩
        replace BB := Lib.hid (BB.out.left hm hs)
        replace OK := Lib.hid (OK.out.stp (hs.wide _))
        clear HC hm hs
        have z2 : w61.cell? ⟨ob, 2, none⟩ = some _ := cell_at OK.out.heap rfl
        have z3 : w61.cell? ⟨ob, 3, none⟩ = some _ := cell_at OK.out.heap rfl
        have z4 : w61.cell? ⟨ob, 4, none⟩ = some _ := cell_at OK.out.heap rfl
        have zl := heap_lt OK.out.heap
        have HC := Lib.hid (mt_arm w w61 _ b n D _ J sp wr' by' BB.out.T hspot)
        go_wp2_with fail
        refine HC.out.mono ?_
        rintro e w62 ⟨rfl, Y1, hm, hs⟩
        replace BB := Lib.hid (BB.out.right hm hs)
        replace OK := Lib.hid (OK.out.stp (wideR hs _))
        clear HC hm hs z2 z3 z4 zl
        replace HP : Hid ((D.arm sp wr' by').pend = []) := Lib.hid ((arm_pend D sp wr' by').trans HP.out)
        go_wp2_with fail
        go_roundw
        case rel => exact ⟨k + 1, _, _, _, J, code, [], by omega, by go_num, rfl, rfl, by omega, by simp, HP, HN3, BB, Lib.hid (rs_none _ _ _), Lib.hid (rs_none _ _ _)⟩
        case measure => simp [intOf]; omega
      · have HC := Lib.hid (ms_rot w (w46.alloc (.cells #[.int .i64 3, .slice sa sn sc, .int .i64 sp, .int .i64 wr', .int .i64 by'] 36)) _ d n D _ J sp wr' by' BB.out.M)
        go_wp2_with fail
        generalize (w46.alloc (.cells #[.int .i64 3, .slice sa sn sc, .int .i64 sp, .int .i64 wr', .int .i64 by'] 36)) = w60 at *
        generalize w46.heap.size = ob at *
        refine HC.out.mono ?_
        rintro e w61 ⟨rfl, X1, hm, hs⟩
        replace BB := Lib.hid (BB.out.left hm hs)
        replace OK := Lib.hid (OK.out.stp (hs.wide _))
        clear HC hm hs
        have z2 : w61.cell? ⟨ob, 2, none⟩ = some _ := cell_at OK.out.heap rfl
        have z3 : w61.cell? ⟨ob, 3, none⟩ = some _ := cell_at OK.out.heap rfl
        have z4 : w61.cell? ⟨ob, 4, none⟩ = some _ := cell_at OK.out.heap rfl
        have zl := heap_lt OK.out.heap
        have HC := Lib.hid (mt_rot w w61 _ b n D _ J sp wr' by' BB.out.T)
        go_wp2_with fail
        refine HC.out.mono ?_
        rintro e w62 ⟨rfl, Y1, hm, hs⟩
        replace BB := Lib.hid (BB.out.right hm hs)
        replace OK := Lib.hid (OK.out.stp (wideR hs _))
        clear HC hm hs z2 z3 z4 zl
        replace HP : Hid ((D.rot sp wr' by').pend = []) := Lib.hid ((rot_pend D sp wr' by').trans HP.out)
        clear OK
        have HC := Lib.hid (ms_open w w62 _ d n _ _ _ BB.out.M HL.out HP.out)
        go_wp2_with fail
        refine HC.out.mono ?_
        rintro e w15 ⟨jv', gv', code', E', J', X', rfl, ho, hm, hs, hr, hnw⟩
        have OR := Lib.hid ho
        have AL := Lib.hid BB.out.M.al
        have RX1 := Lib.hid (rs_new hr hnw BB.out.T.bd.lt)
        replace BB := Lib.hid (BB.out.left hm hs)
        clear HC ho hm hs hr hnw
        have HC := Lib.hid (mt_open w w15 _ b n _ _ _ BB.out.T (by omega) HP.out)
        go_wp2_with fail
        refine HC.out.mono ?_
        rintro e w16 ⟨kv', gw', code2', E2', K', Y', rfl, ho, hm, hs, hr, hnw⟩
        obtain ⟨rfl, rfl, rfl⟩ := OR.out.same ho
        replace HP := Lib.hid (OR.out.pend HP.out AL.out)
        have RY1 := Lib.hid (rs_new2 hr hnw BB.out.M.bd.lt)
        have RX2 := Lib.hid (RX1.out.stp (wideR hs _))
        replace BB := Lib.hid (BB.out.right hm hs)
        clear HC ho hm hs hr hnw AL RX1
        have hb1 := OR.out.recs (by omega : n ≤ 40)
        go_wp2_with fail
        go_roundw
        case rel => exact ⟨k + 1, _, _, _, _, _, _, by omega, by go_num, rfl, rfl, by omega, hb1, HP, Lib.hid OR.out.n3, BB, RX2, RY1⟩
        case measure => simp [intOf]; omega
      · have b1 : (kd == 1) = false := by rw [beq_eq_false_iff_ne]; exact k1
        have b2 : (kd == 2) = false := by rw [beq_eq_false_iff_ne]; exact k2
        have b3 : (kd == 3) = false := by rw [beq_eq_false_iff_ne]; exact k3
        have HC := Lib.hid (ms_append w (w46.alloc (.cells #[.int .i64 kd, .slice sa sn sc, .int .i64 sp, .int .i64 wr', .int .i64 by'] 36)) _ d n D _ (.slice sa sn sc) J xs' BB.out.M HL.out HP.out HN3.out (HSW.out _ _ BB.out.M.bd.bel BB.out.M.bd.ge) (by omega) HXL.out HTX.out (by omega))
        go_wp2_with fail
        generalize (w46.alloc (.cells #[.int .i64 kd, .slice sa sn sc, .int .i64 sp, .int .i64 wr', .int .i64 by'] 36)) = w60 at *
        generalize w46.heap.size = ob at *
        refine HC.out.mono ?_
        rintro e w61 ⟨rfl, X1, hm, hs⟩
        replace BB := Lib.hid (BB.out.left hm hs)
        replace OK := Lib.hid (OK.out.stp (hs.wide _))
        clear HC hm hs
        have z1 : w61.cell? ⟨ob, 1, none⟩ = some _ := cell_at OK.out.heap rfl
        have zl := heap_lt OK.out.heap
        have HC := Lib.hid (mt_append w w61 _ b n D _ (.slice sa sn sc) J xs' BB.out.T HP.out (HSW.out _ _ BB.out.T.bd.bel BB.out.T.bd.ge) (by omega) HXL.out HTX.out (by omega))
        go_wp2_with fail
        refine HC.out.mono ?_
        rintro e w62 ⟨rfl, Y1, hm, hs⟩
        have HALM := Lib.hid (appP_pend n D J xs' HP.out)
        have HRB := appP_recs n D J xs'
        have HSO := Lib.hid (fun h => HN3.out (appP_some n D J xs' h))
        replace BB := Lib.hid (BB.out.right hm hs)
        clear HC hm hs z1 zl OK
        replace HP := Lib.hid (HALM.out HAL.out)
        clear HALM
        generalize appP n D J xs' = R at *
        go_wp2_with fail
        go_roundw
        case rel => exact ⟨k + 1, _, _, R.2.1, R.2.2, R.1, [], by omega, by go_num, rfl, rfl, by omega, by simp, HP, HSO, BB, Lib.hid (rs_none _ _ _), Lib.hid (rs_none _ _ _)⟩
        case measure => simp [intOf]; omega)
end Go.Proofs.YtihoomlaggihlaaGreatDoor
