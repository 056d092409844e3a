/- The law Room, walked. Under the condition that the tables lie in memory as the program lays them and each string is shorter than 2^48 bytes. -/
import Derived.Test.YtihoomlaggihlaaGreatDoorMX
import Derived.Test.YtihoomlaggihlaaGreatDoorRL
namespace Go.Proofs.YtihoomlaggihlaaGreatDoor
open Go.RowKit

theorem rcount_pieces (w : World) (t : List UInt8) (k : Nat) (ht : t.length ≤ 10000000) (hk : (pieces t).length = k) :
    Calls Tryz.prog 10 #[.string ⟨t.toArray⟩] w fun e w' => ∃ pa pc, e = .returned (.slice pa k pc) ∧ Below w.heap.size w w' := by
  refine (rpieces_any w t ht).mono ?_
  rintro e w' ⟨v, rfl, ho, hb⟩
  rw [hk] at ho
  rcases ho.2 with ⟨rfl, e⟩ | ⟨q, cap, cur, rfl, _⟩
  · exact ⟨none, 0, by rw [e], hb⟩
  · exact ⟨_, _, rfl, hb⟩
/-- how an Append ends on a disk that never fails -/
def AppR (w0 : World) (F G : Nat → Prop) (d jb n c : Nat) (S recs xs : List (List UInt8)) (k : Nat) (lo : Bool) (w : World) (e : Ending) (w' : World) : Prop :=
  ∃ F' G', Stp (fun k => F k ∨ G k) w (fun k => F' k ∨ G' k) w' ∧
    ((lo = false ∧ k ≤ n - 2 - c ∧ e = .returned (.int .i64 0) ∧ ∃ S', JS w0 F' G' d jb n (c + k) S' (recs ++ xs) none w') ∨
     (lo = true ∧ e = .returned (.int .i64 2) ∧ JS w0 F' G' d jb n c S recs none w') ∨
     (lo = false ∧ n - 2 - c < k ∧ e = .returned (.int .i64 22) ∧ JS w0 F' G' d jb n c S recs none w'))
theorem js_append_r (w0 w : World) (F G : Nat → Prop) (d jb n c : Nat) (S recs : List (List UInt8)) (xs : List (List UInt8)) (v : Value) (k : Nat) (lo : Bool) (hk : (pieces (textP xs)).length = k) (hlo : longB xs = lo) (h : JS w0 F G d jb n c S recs none w) (hv : SR w (fun k => F k ∨ G k) v xs) (hm : xs.length ≤ 50000) (hl : ∀ t ∈ xs, t.length ≤ 10000000) (ht : (textP xs).length ≤ 10000000) (hrl : recs.length + xs.length ≤ 100000) :
    Calls Tryz.prog 13 #[.pointer (some ⟨jb, 0, none⟩), v] w (AppR w0 F G d jb n c S recs xs k lo w) := by
  refine (js_append w0 w F G d jb n c S recs none xs v h hv hm hl ht hrl).mono ?_
  subst hk hlo
  rintro e w' ⟨F', G', hs, ⟨c', S', al', rfl, hj, hal, hl', rfl⟩ | ⟨code, hc, rfl, hj⟩ | ⟨hne, _⟩⟩
  · obtain rfl := hal rfl
    have := hj.jat.le
    exact ⟨F', G', hs, Or.inl ⟨hl', by omega, rfl, S', hj⟩⟩
  · rcases hc with ⟨rfl, hl'⟩ | ⟨rfl, hl', hr⟩
    · exact ⟨F', G', hs, Or.inr (Or.inl ⟨hl', rfl, hj⟩)⟩
    · exact ⟨F', G', hs, Or.inr (Or.inr ⟨hl', hr, rfl, hj⟩)⟩
  · exact absurd rfl hne
set_option maxHeartbeats 64000000 in
set_option maxRecDepth 100000 in
theorem room_walk (w : World) (A : Option Addr) (cp : Nat) (s : Int) (l : List ROp) (hL : Laid w) (hR : RdP w A l) (hS : ∀ o ∈ l, ∀ t ∈ o.list, t.length ≤ 281474976710656) :
    Calls Tryz.prog 3 #[.int .i64 s, .slice A l.length cp] w (Yes w) := by
  have HL := Lib.hid hL
  have HR := Lib.hid hR
  have HS := Lib.hid hS
  clear hL hR hS
  go_enter Tryz.func3, Tryz.ntmps3
  go_wp2_with fail
  refine (head_walk w HL.out).mono ?_
  rintro e w1 ⟨rfl, hb⟩
  have B := Lib.hid hb
  clear hb
  have HI := Lib.hid (light_any w1 A cp s l (HR.out.below B.out) HS.out)
  go_wp2_with fail
  refine HI.out.mono ?_
  rintro e w2 ⟨b, rfl, hb, hl⟩
  replace B := Lib.hid (B.out.trans (hb.mono B.out.size))
  clear HI hb
  rcases b with _ | _
  · clear hl
    go_wp2_with fail
    go_ret
    exact ⟨rfl, B.out⟩
  have HLt := Lib.hid (hl rfl)
  clear hl
  by_cases h1 : s < 1
  · go_wp2_with fail
    refine (new_no w2 s (Or.inl h1)).mono ?_
    rintro e w3 ⟨rfl, rfl⟩
    go_wp2_with fail
    refine (open_nil w2).mono ?_
    rintro e w3 ⟨rfl, rfl⟩
    go_wp2_with fail
    go_ret
    exact ⟨rfl, B.out⟩
  obtain ⟨n, rfl⟩ : ∃ n : Nat, s = n := ⟨s.toNat, by omega⟩
  have hn40 := HLt.out.s40
  have HC := Lib.hid (ds_new w w2 n (by omega) (by omega) B.out HL.out)
  go_wp2_with fail
  refine HC.out.mono ?_
  rintro e w3 ⟨d, F0, rfl, hd, hb, _⟩
  replace B := Lib.hid (B.out.trans (hb.mono B.out.size))
  clear HC hb
  by_cases h3 : n < 3
  · have HO := Lib.hid (open_few w3 F0 d n (newD n) hd.dat rfl (by simp [newD]) h3)
    clear hd
    go_wp2_with fail
    refine HO.out.mono ?_
    rintro e w4 ⟨_, rfl, hb⟩
    replace B := Lib.hid (B.out.trans (hb.mono B.out.size))
    clear HO hb
    go_wp2_with fail
    go_ret
    exact ⟨rfl, B.out⟩
  replace h3 : 3 ≤ n := by omega
  have HO := Lib.hid (ds_open_n w w3 F0 d n 0 (List.replicate n zeroT) [] hd h3 (opn_new n h3))
  clear hd B
  go_wp2_with fail
  refine HO.out.mono ?_
  rintro e w4 ⟨jb, gv, F, G, S, rfl, hj, _, hr, _⟩
  have J0 := Lib.hid hj
  clear hj hr HO
  have hr0 : (n : Int) - 2 = ((n - 2 - 0 : Nat) : Int) := by omega
  go_wp2_with fail
  go_loopw [9, 10] (fun r i wr => ∃ (k : Nat) (F G : Nat → Prop) (c : Nat) (S recs : List (List UInt8)), k ≤ l.length ∧ i = .int .i64 k ∧ r = .int .i64 ((n - 2 - c : Nat) : Int) ∧ recs.length ≤ 20 * k ∧ Hid (JS w F G d jb n c S recs none wr)) (fun _ i _ => l.length - (intOf i).toNat)
  case atStart => exact ⟨0, F, G, 0, S, [], by omega, rfl, by go_num, by simp, J0⟩
  case round =>
    clear J0
    obtain ⟨k, F, G, c, S, recs, hk, rfl, rfl, hlen, J⟩ := hrel
    have hk0 : (0 : Int) ≤ (k : Int) := Int.natCast_nonneg _
    by_cases hlt : k < l.length
    · obtain ⟨b, o, sv, rfl, _, c1, _, _, _, hsv0⟩ := HR.out k hlt
      have hk1 : (k : Int) < (l.length : Int) := by omega
      have h20 := HLt.out.l20 _ (List.getElem_mem hlt)
      have hsum : sumLen l[k].list ≤ 6000 := Nat.le_trans (list_sum hlt) HLt.out.sum
      have h16 := HLt.out.l16
      have HC1 := Lib.hid (fun W (hb : Below w.heap.size w W) => ((hb.cell (p := ⟨b, o + k * 5 + 1, none⟩) (show b < w.heap.size from cell_lt c1)).trans c1 : W.cell? ⟨b, o + k * 5 + 1, none⟩ = some sv))
      have HSW := Lib.hid (fun W (X : Nat → Prop) (hb : Below w.heap.size w W) (hX : ∀ x, X x → w.heap.size ≤ x) => ((hsv0.old.out (Out.of_below hb)).weak (fun x _ e => Or.inr (hX x e)) : SR W X sv l[k].list))
      clear c1 hsv0
      generalize hxs : l[k].list = xs at *
      clear hxs
      have HTL := Lib.hid (show (textP xs).length ≤ 10000000 by have := textP_dbl xs; omega)
      have HXL := Lib.hid (fun t (ht : t ∈ xs) => (by have := sum_mem ht; omega : t.length ≤ 10000000))
      obtain ⟨K, hK⟩ : ∃ K, (pieces (textP xs)).length = K := ⟨_, rfl⟩
      obtain ⟨lo, hlo⟩ : ∃ lo, longB xs = lo := ⟨_, rfl⟩
      have HKK := Lib.hid hK
      have HLO := Lib.hid hlo
      have hKb : K ≤ 10000000 := by
        have h2 : (pieces (textP xs)).length ≤ (textP xs).length := by
          have key : ∀ m (t : List UInt8), t.length ≤ m → (pieces t).length ≤ t.length := by
            intro m
            induction m with
            | zero =>
              intro t ht
              have e : t = [] := List.eq_nil_of_length_eq_zero (by omega)
              rw [e, pieces_nil]; simp
            | succ m ih =>
              intro t ht
              by_cases e : t = []
              · subst e; rw [pieces_nil]; simp
              · rw [pieces_cons e]
                have := List.length_pos_iff.2 e
                have i := ih (t.drop 46) (by rw [List.length_drop]; omega)
                rw [List.length_drop] at i
                simp only [List.length_cons]
                omega
          exact key _ _ (Nat.le_refl _)
        have := HTL.out
        omega
      have hcb := J.out.jat.le
      have hK0 : (0 : Int) ≤ (K : Int) := Int.natCast_nonneg _
      clear hK hlo
      have HC := Lib.hid (records_any wr G jb d n c recs false J.out.jat)
      go_wp2_with fail
      refine HC.out.mono ?_
      rintro e w1 ⟨g, rfl, ho, hb⟩
      have LT := J.out.lt
      have W : Hid (RS w (fun x => F x ∨ G x) g recs w1) := Lib.hid ⟨own_from ho J.out.ds.bel.size, fun x hx e => by have := (ho.lt x hx).1; have := LT x e; omega⟩
      replace J := Lib.hid (J.out.below hb)
      clear ho hb HC LT
      have y1 := HC1.out _ J.out.ds.bel
      have HC := Lib.hid (rtext_any w1 sv xs (HSW.out _ _ J.out.ds.bel (fun x e => J.out.ge x e)).zero HTL.out)
      go_wp2_with fail
      refine HC.out.mono ?_
      rintro e w2 ⟨rfl, hb⟩
      replace J := Lib.hid (J.out.below hb)
      replace W := Lib.hid (W.out.stp (Stp.below hb))
      clear hb HC y1
      have HC := Lib.hid (rcount_pieces w2 (textP xs) K HTL.out HKK.out)
      go_wp2_with fail
      refine HC.out.mono ?_
      rintro e w3 ⟨pa, pc, rfl, hb⟩
      replace J := Lib.hid (J.out.below hb)
      replace W := Lib.hid (W.out.stp (Stp.below hb))
      clear hb HC
      have y1 := HC1.out _ J.out.ds.bel
      have HC := Lib.hid (rlong_any w3 sv xs (HSW.out _ _ J.out.ds.bel (fun x e => J.out.ge x e)).zero (by omega) HXL.out)
      rw [HLO.out] at HC
      go_wp2_with fail
      refine HC.out.mono ?_
      rintro e w4 ⟨rfl, rfl⟩
      clear HC
      have HC := Lib.hid (js_append_r w w3 F G d jb n c S recs xs sv K lo HKK.out HLO.out J.out (HSW.out _ _ J.out.ds.bel (fun x e => J.out.ge x e)) (by omega) HXL.out HTL.out (by omega))
      clear J
      rcases lo with _ | _
      · by_cases hr : n - 2 - c < K
        · have hri : ((n - 2 - c : Nat) : Int) < (K : Int) := by omega
          go_wp2_with fail
          refine HC.out.mono ?_
          rintro e w5 ⟨F1, G1, hs, ⟨_, hh, _⟩ | ⟨hh, _⟩ | ⟨_, _, rfl, hj⟩⟩
          · omega
          · cases hh
          replace W := Lib.hid (W.out.stp hs)
          have J := Lib.hid hj
          clear hs hj HC y1
          have HC := Lib.hid (room_any w5 G1 jb d n c recs false J.out.jat (by omega))
          go_wp2_with fail
          refine HC.out.mono ?_
          rintro e w6 ⟨rfl, hb⟩
          replace J := Lib.hid (J.out.below hb)
          replace W := Lib.hid (W.out.stp (Stp.below hb))
          clear hb HC
          have HC := Lib.hid (records_any w6 G1 jb d n c recs false J.out.jat)
          go_wp2_with fail
          refine HC.out.mono ?_
          rintro e w7 ⟨g2, rfl, ho, hb⟩
          replace J := Lib.hid (J.out.below hb)
          replace W := Lib.hid (W.out.stp (Stp.below hb))
          have HC := Lib.hid (same_yes w7 g2 g recs (SR.own (F := fun _ => False) ho (fun _ _ => id)) W.out.sr (by omega))
          clear ho hb
          go_wp2_with fail
          refine HC.out.mono ?_
          rintro e w8 ⟨rfl, hb⟩
          replace J := Lib.hid (J.out.below hb)
          clear hb HC W
          go_wp2_with fail
          go_roundw
          case rel => exact ⟨k + 1, F1, G1, c, S, recs, by omega, by go_num, rfl, by omega, J⟩
          case measure => simp [intOf]; omega
        · have hri : (K : Int) ≤ ((n - 2 - c : Nat) : Int) := by omega
          have hrm : ((n - 2 - c : Nat) : Int) - (K : Int) = ((n - 2 - (c + K) : Nat) : Int) := by omega
          go_wp2_with fail
          refine HC.out.mono ?_
          rintro e w5 ⟨F1, G1, hs, ⟨_, _, rfl, S1, hj⟩ | ⟨hh, _⟩ | ⟨_, hh, _⟩⟩
          rotate_left
          · cases hh
          · omega
          replace W := Lib.hid (W.out.stp hs)
          have J := Lib.hid hj
          clear hs hj HC y1
          have hrm2 : IntKind.i64.wrap (((n - 2 - c : Nat) : Int) - (K : Int)) = ((n - 2 - (c + K) : Nat) : Int) := by rw [hrm]; exact IntWalk.i64_in _ (by omega)
          have y1 := HC1.out _ J.out.ds.bel
          have y3 := HC1.out (w5.alloc (.cells #[] 9)) (J.out.ds.bel.alloc J.out.ds.bel.size _)
          go_wp2_with fail
          apply region_once (fun _ v2 w6 => Hid (Below w5.heap.size w5 w6) ∧ Hid (w6.ownsRow w5.heap.size 9 1 v2 (recs.length + xs.length) (strs (recs ++ xs))))
          case h1 =>
            go_region_law (first
              | (refine step_append_strs rfl (.tmp 70) (.tmp 71) rfl w5.heap.size 0 (.slice (some ⟨w5.heap.size, 0, none⟩) 0 0) [] recs (fun _ => False) g (by rfl) (by rfl) (by first | exact own_void _ _ (by simp) | exact own_below (own_void _ _ (by simp)) (by (repeat (first | exact Below.refl _ _ | refine Below.drew ?_ | (refine Below.alloc ?_ (by simp) _))))) (W.out.stp (Stp.below (by (repeat (first | exact Below.refl _ _ | refine Below.drew ?_ | (refine Below.alloc ?_ (by simp) _)))))).sr.zero (by omega) (by simp) ?_; intro v1 w6 o5 g5 n5; (have B5 : Hid (Below w5.heap.size w5 w6) := Lib.hid (Below.grown (by (repeat (first | exact Below.refl _ _ | refine Below.drew ?_ | (refine Below.alloc ?_ (by simp) _)))) g5 (by simp) (fun x hx => by simp [Value.ownBlock] at hx; omega))); (have y5 := HC1.out w6 (J.out.ds.bel.trans (B5.out.mono J.out.ds.bel.size))); (have O5 : Hid (w6.ownsRow w5.heap.size 9 1 v1 recs.length (strs recs)) := Lib.hid (by simpa using o5)); clear o5 g5 n5)
              | (refine step_append_strs rfl (.tmp 72) (.tmp 77) rfl w5.heap.size recs.length v1 recs xs (fun _ => False) sv (by rfl) (by rfl) (by first | exact O5.out | exact own_below O5.out (by (repeat (first | exact Below.refl _ _ | refine Below.drew ?_ | (refine Below.alloc ?_ (by simp) _))))) (HSW.out _ _ (J.out.ds.bel.trans (Below.mono (by (repeat (first | exact B5.out | refine Below.drew ?_))) J.out.ds.bel.size)) (fun _ e => e.elim)) (by omega) (by first | exact B5.out.size | simpa using B5.out.size) ?_; intro v2 w7 o6 g6 n6; (have B6 : Hid (Below w5.heap.size w5 w7) := Lib.hid (Below.grown (by (repeat (first | exact B5.out | refine Below.drew ?_))) g6 (by first | exact B5.out.size | simpa using B5.out.size) (fun x hx => (O5.out.lt x hx).1))); (have O6 := Lib.hid o6); clear o6 g6 n6 B5 O5 y5))
            all_goals exact ⟨v1, v2, rfl, B6, O6⟩
          rintro v1 v2 w6 ⟨B6, O6⟩
          have LT := Lib.hid J.out.lt
          replace W : Hid (RS w (fun x => F1 x ∨ G1 x) v2 (recs ++ xs) w6) := Lib.hid ⟨own_from (by simpa using O6.out) J.out.ds.bel.size, fun x hx e => by have := (O6.out.lt x hx).1; have := LT.out x e; omega⟩
          replace J := Lib.hid (J.out.below B6.out)
          clear B6 O6 y1 y3 LT
          have hln : (recs ++ xs).length ≤ 20 * (k + 1) := by rw [List.length_append]; omega
          generalize recs ++ xs = rx at *
          have HC := Lib.hid (room_any w6 G1 jb d n (c + K) rx false J.out.jat (by omega))
          go_wp2_with fail
          refine HC.out.mono ?_
          rintro e w7 ⟨rfl, hb⟩
          replace J := Lib.hid (J.out.below hb)
          replace W := Lib.hid (W.out.stp (Stp.below hb))
          clear hb HC
          have HC := Lib.hid (records_any w7 G1 jb d n (c + K) rx false J.out.jat)
          go_wp2_with fail
          refine HC.out.mono ?_
          rintro e w8 ⟨g2, rfl, ho, hb⟩
          replace J := Lib.hid (J.out.below hb)
          replace W := Lib.hid (W.out.stp (Stp.below hb))
          have HC := Lib.hid (same_yes w8 g2 v2 rx (SR.own (F := fun _ => False) ho (fun _ _ => id)) W.out.sr (by omega))
          clear ho hb
          go_wp2_with fail
          refine HC.out.mono ?_
          rintro e w9 ⟨rfl, hb⟩
          replace J := Lib.hid (J.out.below hb)
          clear hb HC W
          go_wp2_with fail
          go_roundw
          case rel => exact ⟨k + 1, F1, G1, c + K, S1, rx, by omega, by go_num, by first | rfl | rw [hrm2] | rw [hrm], hln, J⟩
          case measure => simp [intOf]; omega
      · go_wp2_with fail
        refine HC.out.mono ?_
        rintro e w5 ⟨F1, G1, hs, ⟨hh, _⟩ | ⟨_, rfl, hj⟩ | ⟨hh, _⟩⟩
        · cases hh
        rotate_left
        · cases hh
        replace W := Lib.hid (W.out.stp hs)
        have J := Lib.hid hj
        clear hs hj HC y1
        have HC := Lib.hid (room_any w5 G1 jb d n c recs false J.out.jat (by omega))
        go_wp2_with fail
        refine HC.out.mono ?_
        rintro e w6 ⟨rfl, hb⟩
        replace J := Lib.hid (J.out.below hb)
        replace W := Lib.hid (W.out.stp (Stp.below hb))
        clear hb HC
        have HC := Lib.hid (records_any w6 G1 jb d n c recs false J.out.jat)
        go_wp2_with fail
        refine HC.out.mono ?_
        rintro e w7 ⟨g2, rfl, ho, hb⟩
        replace J := Lib.hid (J.out.below hb)
        replace W := Lib.hid (W.out.stp (Stp.below hb))
        have HC := Lib.hid (same_yes w7 g2 g recs (SR.own (F := fun _ => False) ho (fun _ _ => id)) W.out.sr (by omega))
        clear ho hb
        go_wp2_with fail
        refine HC.out.mono ?_
        rintro e w8 ⟨rfl, hb⟩
        replace J := Lib.hid (J.out.below hb)
        clear hb HC W
        go_wp2_with fail
        go_roundw
        case rel => exact ⟨k + 1, F1, G1, c, S, recs, by omega, by go_num, rfl, by omega, J⟩
        case measure => simp [intOf]; omega
    · obtain rfl : k = l.length := by omega
      go_wp2_with fail
      go_ret
      exact ⟨rfl, J.out.ds.bel⟩
end Go.Proofs.YtihoomlaggihlaaGreatDoor
