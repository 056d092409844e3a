/- The law Atomic, walked. Under the condition that the tables lie in memory as the program lays them and each string is shorter than 2^48 bytes. -/
import Derived.Test.YtihoomlaggihlaaDoorLJ
import Derived.Deep.RegionHeld3
import Derived.StillTailTactics
namespace Go.Proofs.YtihoomlaggihlaaDoor
open Go.RowKit

/-- how an Append ends, whatever the alarm -/
def AppE (w0 : World) (F G : Nat → Prop) (d n : Nat) (recs xs : List (List UInt8)) (w : World) (e : Ending) (w' : World) : Prop :=
  ∃ (code : Int) (F' : Nat → Prop) (off : Bool) (al : Option (Int × Int × Int)) (T : List (List UInt8)) (c : Nat) (recs2 : List (List UInt8)), e = .returned (.int .i64 code) ∧ DS w0 F' d n ⟨T, [], off, al⟩ w' ∧ Opn n T c recs2 ∧ Stp (fun k => F k ∨ G k) w F' w' ∧
    ((code = 0 ∧ recs2 = recs ++ xs) ∨ (code = 2 ∧ recs2 = recs) ∨ (code = 22 ∧ recs2 = recs) ∨ (code = 21 ∧ (recs2 = recs ∨ recs2 = recs ++ xs)))
theorem Stp.left {X F G : Nat → Prop} {w w' : World} (h : Stp X w (fun k => F k ∨ G k) w') : Stp X w F w' := ⟨h.out, fun k e => h.sub k (Or.inl e)⟩
theorem js_append_e (w0 w : World) (F G : Nat → Prop) (d jb n c : Nat) (S recs : List (List UInt8)) (al : Option (Int × Int × Int)) (xs : List (List UInt8)) (v : Value) (h : JS w0 F G d jb n c S recs al w) (hv : SR w (fun k => F k ∨ G k) v xs) (hm : xs.length ≤ 50000) (hl : ∀ t ∈ xs, t.length ≤ 10000000) (ht : (textP xs).length ≤ 10000000) (hrl : recs.length + xs.length ≤ 100000) :
    Calls Tryd.prog 18 #[.pointer (some ⟨jb, 0, none⟩), v] w (AppE w0 F G d n recs xs w) := by
  refine (js_append w0 w F G d jb n c S recs al xs v h hv hm hl ht hrl).mono ?_
  rintro e w' ⟨F', G', hs, ⟨c', S', al', rfl, hj, _⟩ | ⟨code, hc, rfl, hj⟩ | ⟨_, rfl, _, _, T, hd, ho⟩⟩
  · exact ⟨0, F', _, _, _, _, _, rfl, hj.ds, hj.good.opn, hs.left, Or.inl ⟨rfl, rfl⟩⟩
  · refine ⟨code, F', _, _, _, _, _, rfl, hj.ds, hj.good.opn, hs.left, ?_⟩
    rcases hc with ⟨hc, _⟩ | ⟨hc, _⟩
    · exact Or.inr (Or.inl ⟨hc, rfl⟩)
    · exact Or.inr (Or.inr (Or.inl ⟨hc, rfl⟩))
  · rcases ho with ⟨c', ho⟩ | ⟨c', ho⟩
    · exact ⟨21, F', _, _, _, _, _, rfl, hd, ho, hs.left, Or.inr (Or.inr (Or.inr ⟨rfl, Or.inl rfl⟩))⟩
    · exact ⟨21, F', _, _, _, _, _, rfl, hd, ho, hs.left, Or.inr (Or.inr (Or.inr ⟨rfl, Or.inr rfl⟩))⟩
/-- how an Open ends, whatever the alarm -/
def OpenE (w0 : World) (F : Nat → Prop) (d n c : Nat) (recs : List (List UInt8)) (w : World) (e : Ending) (w' : World) : Prop :=
  ∃ (code : Int) (kv gv : Value) (F' : Nat → Prop) (off : Bool) (al : Option (Int × Int × Int)) (T : List (List UInt8)), e = .returned (.tuple #[kv, gv, .int .i64 code]) ∧ DS w0 F' d n ⟨T, [], off, al⟩ w' ∧ Opn n T c recs ∧ Stp F w F' w' ∧
    (code = 21 ∨ (code = 0 ∧ RS w0 F' gv recs w'))
theorem ds_open_e (w0 w : World) (F : Nat → Prop) (d n c : Nat) (S recs : List (List UInt8)) (al : Option (Int × Int × Int)) (h : DS w0 F d n ⟨S, [], false, al⟩ w) (hn3 : 3 ≤ n) (ho : Opn n S c recs) :
    Calls Tryd.prog 15 #[.pointer (some ⟨d, 0, none⟩)] w (OpenE w0 F d n c recs w) := by
  refine (ds_open w0 w F d n S al h hn3).mono ?_
  rintro e w' (⟨hno, _⟩ | ⟨c', recs', hop, _, rfl, F', T, hd, hT, hs⟩ | ⟨c', recs', hop, kb, gv, F', G, S', al', rfl, hst, _, hs, _, hrs⟩)
  · exact absurd ⟨_, _, ho⟩ hno
  · obtain ⟨rfl, rfl⟩ := hop.same ho
    exact ⟨21, _, _, F', _, _, T, rfl, hd, hT, hs, Or.inl rfl⟩
  · obtain ⟨rfl, rfl⟩ := hop.same ho
    exact ⟨0, _, _, F', _, _, S', rfl, hst.ds, hst.good.opn, hs, Or.inr ⟨rfl, hrs.weak fun _ _ h => Or.inl h⟩⟩
/-- an Open that no failure meets -/
def OpenN (w0 : World) (F : Nat → Prop) (d n c : Nat) (recs : List (List UInt8)) (w : World) (e : Ending) (w' : World) : Prop :=
  ∃ (jb : Nat) (gv : Value) (F' G : Nat → Prop) (S : List (List UInt8)), e = .returned (.tuple #[.pointer (some ⟨jb, 0, none⟩), gv, .int .i64 0]) ∧ JS w0 F' G d jb n c S recs none w' ∧ Stp F w F' w' ∧ RS w0 (fun k => F' k ∨ G k) gv recs w' ∧ ∀ k, G k → w.heap.size ≤ k
theorem ds_open_n (w0 w : World) (F : Nat → Prop) (d n c : Nat) (S recs : List (List UInt8)) (h : DS w0 F d n ⟨S, [], false, none⟩ w) (hn3 : 3 ≤ n) (ho : Opn n S c recs) :
    Calls Tryd.prog 15 #[.pointer (some ⟨d, 0, none⟩)] w (OpenN w0 F d n c recs w) := by
  refine (ds_open w0 w F d n S none h hn3).mono ?_
  rintro e w' (⟨hno, _⟩ | ⟨_, _, _, hne, _⟩ | ⟨c', recs', hop, kb, gv, F', G, S', al', rfl, hst, hal, hs, hG, hrs⟩)
  · exact absurd ⟨_, _, ho⟩ hno
  · exact absurd rfl hne
  · obtain ⟨rfl, rfl⟩ := hop.same ho
    obtain rfl := hal rfl
    exact ⟨kb, gv, F', G, S', rfl, hst, hs, hrs, hG⟩
theorem arm_on (S : List (List UInt8)) (al : Option (Int × Int × Int)) (a b c : Int) : ∃ al', PD.arm ⟨S, [], false, al⟩ a b c = ⟨S, [], false, al'⟩ := by
  unfold PD.arm
  exact ⟨if 0 ≤ a then some (a, b, c) else none, by simp⟩
/-- the disk is armed -/
theorem js_arm (w0 w : World) (F G : Nat → Prop) (d jb n c : Nat) (S recs : List (List UInt8)) (al : Option (Int × Int × Int)) (x y z : Int) (h : JS w0 F G d jb n c S recs al w) (hx : x ≤ 9223372036854775807) :
    Calls Tryd.prog 22 #[.pointer (some ⟨d, 0, none⟩), .int .i64 x, .int .i64 y, .int .i64 z] w fun e w' => e = .returned (.tuple #[]) ∧ ∃ F' al', JS w0 F' G d jb n c S recs al' w' ∧ Stp (fun k => F k ∨ G k) w (fun k => F' k ∨ G k) w' := by
  refine (ds_arm w0 w F d n _ x y z h.ds hx).mono ?_
  rintro e w' ⟨rfl, F', hd, hs⟩
  obtain ⟨al', e1⟩ := arm_on S al x y z
  rw [e1] at hd
  have hj := h.jat.stp hs h.sep
  exact ⟨rfl, F', al', ⟨hd, hj.1, hj.2, h.gge, h.good, h.n3⟩, hs.wide G⟩
theorem ds_arm_on (w0 w : World) (F : Nat → Prop) (d n : Nat) (S : List (List UInt8)) (al : Option (Int × Int × Int)) (x y z : Int) (h : DS w0 F d n ⟨S, [], false, al⟩ w) (hx : x ≤ 9223372036854775807) :
    Calls Tryd.prog 22 #[.pointer (some ⟨d, 0, none⟩), .int .i64 x, .int .i64 y, .int .i64 z] w fun e w' => e = .returned (.tuple #[]) ∧ ∃ F' al', DS w0 F' d n ⟨S, [], false, al'⟩ w' ∧ Stp F w F' w' := by
  refine (ds_arm w0 w F d n _ x y z h hx).mono ?_
  rintro e w' ⟨rfl, F', hd, hs⟩
  obtain ⟨al', e1⟩ := arm_on S al x y z
  rw [e1] at hd
  exact ⟨rfl, F', al', hd, hs⟩
theorem own_void (w : World) (B : Nat) (hB : B ≤ w.heap.size) : (w.alloc (.cells #[] 9)).ownsRow B 9 1 (.slice (some ⟨w.heap.size, 0, none⟩) 0 0) 0 (strs []) :=
  ⟨rfl, Or.inr ⟨w.heap.size, 0, #[], rfl, hB, heap_alloc_new w _, Nat.le_refl _, by unfold maxLen; omega, rfl, rfl⟩⟩
/-- a region's orders come together -/
def Once (R : Value → Value → World → Prop) (f : Value → Value → Act) (ex : Exit) (a : Act) (w : World) : Prop :=
  match ex with
  | .normal => ∃ v1 v2, a = f v1 v2 ∧ R v1 v2 w
  | _ => False
theorem region_once {c : Code} {Q : Exit → Act → World → Prop} {a : Act} {w : World} (R : Value → Value → World → Prop) (f : Value → Value → Act) (h1 : c.wp Tryd.prog (Once R f) a w) (h2 : ∀ v1 v2 w', R v1 v2 w' → Q .normal (f v1 v2) w') : c.wp Tryd.prog Q a w :=
  Code.wp_mono (fun ex a' w' h => by
    cases ex <;> first | exact h.elim | skip
    obtain ⟨v1, v2, rfl, hr⟩ := h
    exact h2 v1 v2 w' hr) h1
set_option maxHeartbeats 64000000 in
set_option maxRecDepth 100000 in
theorem atomic_walk (w : World) (A : Option Addr) (cp : Nat) (s : Int) (l : List ROp) (hL : Laid w) (hR : RdP w A l) (hS : ∀ o ∈ l, ∀ t ∈ o.list, t.length ≤ 281474976710656) :
    Calls Tryd.prog 7 #[.int .i64 s, .slice A l.length cp] w (Yes w) := by
  have HL := Lib.hid hL
  have HR := Lib.hid hR
  have HS := Lib.hid hS
  clear hL hR hS
  go_enter Tryd.func7, Tryd.ntmps7
  go_wp2_with fail
  refine (head_walk w HL.out).mono ?_
  rintro e w1 ⟨rfl, hb⟩
  have B := Lib.hid hb
  clear hb
  have HI := Lib.hid (light_any w1 A cp s l (HR.out.below B.out) HS.out)
  go_wp2_with fail
  refine HI.out.mono ?_
  rintro e w2 ⟨b, rfl, hb, hl⟩
  replace B := Lib.hid (B.out.trans (hb.mono B.out.size))
  clear HI hb
  rcases b with _ | _
  · clear hl
    go_wp2_with fail
    go_ret
    exact ⟨rfl, B.out⟩
  have HLt := Lib.hid (hl rfl)
  clear hl
  by_cases h1 : s < 1
  · go_wp2_with fail
    refine (new_no w2 s (Or.inl h1)).mono ?_
    rintro e w3 ⟨rfl, rfl⟩
    go_wp2_with fail
    refine (open_nil w2).mono ?_
    rintro e w3 ⟨rfl, rfl⟩
    go_wp2_with fail
    go_ret
    exact ⟨rfl, B.out⟩
  obtain ⟨n, rfl⟩ : ∃ n : Nat, s = n := ⟨s.toNat, by omega⟩
  have hn40 := HLt.out.s40
  have HC := Lib.hid (ds_new w w2 n (by omega) (by omega) B.out HL.out)
  go_wp2_with fail
  refine HC.out.mono ?_
  rintro e w3 ⟨d, F0, rfl, hd, hb, _⟩
  replace B := Lib.hid (B.out.trans (hb.mono B.out.size))
  clear HC hb
  by_cases h3 : n < 3
  · have HO := Lib.hid (open_few w3 F0 d n (newD n) hd.dat rfl (by simp [newD]) h3)
    clear hd
    go_wp2_with fail
    refine HO.out.mono ?_
    rintro e w4 ⟨_, rfl, hb⟩
    replace B := Lib.hid (B.out.trans (hb.mono B.out.size))
    clear HO hb
    go_wp2_with fail
    go_ret
    exact ⟨rfl, B.out⟩
  replace h3 : 3 ≤ n := by omega
  have HO := Lib.hid (ds_open_n w w3 F0 d n 0 (List.replicate n zeroT) [] hd h3 (opn_new n h3))
  clear hd B
  go_wp2_with fail
  refine HO.out.mono ?_
  rintro e w4 ⟨jb, gv, F, G, S, rfl, hj, _, hr, _⟩
  have J0 := Lib.hid hj
  have R0 := Lib.hid hr
  clear hj hr HO
  go_wp2_with fail
  go_loopw [7, 8, 10] (fun jv bv i wr => ∃ (k : Nat) (F G : Nat → Prop) (jb c : Nat) (S recs : List (List UInt8)), k ≤ l.length ∧ i = .int .i64 k ∧ jv = .pointer (some ⟨jb, 0, none⟩) ∧ recs.length ≤ 20 * k ∧ Hid (JS w F G d jb n c S recs none wr) ∧ Hid (RS w (fun x => F x ∨ G x) bv recs wr)) (fun _ _ i _ => l.length - (intOf i).toNat)
  case atStart => exact ⟨0, F, G, jb, 0, S, [], by omega, rfl, rfl, by simp, J0, R0⟩
  case round =>
    clear J0 R0
    obtain ⟨k, F, G, jb, c, S, recs, hk, rfl, rfl, hlen, J, R⟩ := hrel
    have hk0 : (0 : Int) ≤ (k : Int) := Int.natCast_nonneg _
    by_cases hlt : k < l.length
    · obtain ⟨b, o, sv, rfl, _, c1, c2, c3, c4, hsv0⟩ := HR.out k hlt
      have hk1 : (k : Int) < (l.length : Int) := by omega
      have h20 := HLt.out.l20 _ (List.getElem_mem hlt)
      have hsum : sumLen l[k].list ≤ 6000 := Nat.le_trans (list_sum hlt) HLt.out.sum
      have h16 := HLt.out.l16
      have hcw : ∀ j u, w.cell? ⟨b, o + k * 5 + j, none⟩ = some u → ∀ W, Below w.heap.size w W → W.cell? ⟨b, o + k * 5 + j, none⟩ = some u := fun j u hu W hb => (hb.cell (p := ⟨b, o + k * 5 + j, none⟩) (show b < w.heap.size from cell_lt c1)).trans hu
      have HC1 := Lib.hid (hcw 1 _ c1)
      have HC2 := Lib.hid (hcw 2 _ c2)
      have HC3 := Lib.hid (hcw 3 _ c3)
      have HC4 := Lib.hid (hcw 4 _ c4)
      have HSW := Lib.hid (fun W (X : Nat → Prop) (hb : Below w.heap.size w W) (hX : ∀ x, X x → w.heap.size ≤ x) => ((hsv0.old.out (Out.of_below hb)).weak (fun x _ e => Or.inr (hX x e)) : SR W X sv l[k].list))
      clear hcw c1 c2 c3 c4 hsv0
      generalize hxs : l[k].list = xs at *
      generalize l[k].spot = sp at *
      generalize l[k].writes = wr' at *
      generalize l[k].bytes = by' at *
      have y1 := HC1.out _ J.out.ds.bel
      have y2 := HC2.out _ J.out.ds.bel
      go_wp2_with fail
      have y3 := HC1.out (wr.alloc (.cells #[] 9)) (J.out.ds.bel.alloc J.out.ds.bel.size _)
      apply region_once (fun _ v2 w6 => Hid (Below wr.heap.size wr w6) ∧ Hid (w6.ownsRow wr.heap.size 9 1 v2 (recs.length + xs.length) (strs (recs ++ xs))))
      case h1 =>
        go_region_law (first
          | (refine step_append_strs rfl (.tmp 45) (.tmp 46) rfl wr.heap.size 0 (.slice (some ⟨wr.heap.size, 0, none⟩) 0 0) [] recs (fun _ => False) u8 (by rfl) (by rfl) (by first | exact own_void _ _ (by simp) | exact own_below (own_void _ _ (by simp)) (by (repeat (first | exact Below.refl _ _ | refine Below.drew ?_ | (refine Below.alloc ?_ (by simp) _))))) (R.out.stp (Stp.below (by (repeat (first | exact Below.refl _ _ | refine Below.drew ?_ | (refine Below.alloc ?_ (by simp) _)))))).sr.zero (by omega) (by simp) ?_; intro v1 w5 o5 g5 n5; (have B5 : Hid (Below wr.heap.size wr w5) := Lib.hid (Below.grown (by (repeat (first | exact Below.refl _ _ | refine Below.drew ?_ | (refine Below.alloc ?_ (by simp) _)))) g5 (by simp) (fun x hx => by simp [Value.ownBlock] at hx; omega))); (have y5 := HC1.out w5 (J.out.ds.bel.trans (B5.out.mono J.out.ds.bel.size))); (have O5 : Hid (w5.ownsRow wr.heap.size 9 1 v1 recs.length (strs recs)) := Lib.hid (by simpa using o5)); clear o5 g5 n5)
          | (refine step_append_strs rfl (.tmp 47) (.tmp 52) rfl wr.heap.size recs.length v1 recs xs (fun _ => False) sv (by rfl) (by rfl) (by first | exact O5.out | exact own_below O5.out (by (repeat (first | exact Below.refl _ _ | refine Below.drew ?_ | (refine Below.alloc ?_ (by simp) _))))) (HSW.out _ _ (J.out.ds.bel.trans (Below.mono (by (repeat (first | exact B5.out | refine Below.drew ?_))) J.out.ds.bel.size)) (fun _ e => e.elim)) (by omega) (by first | exact B5.out.size | simpa using B5.out.size) ?_; intro v2 w6 o6 g6 n6; (have B6 : Hid (Below wr.heap.size wr w6) := Lib.hid (Below.grown (by (repeat (first | exact B5.out | refine Below.drew ?_))) g6 (by first | exact B5.out.size | simpa using B5.out.size) (fun x hx => (O5.out.lt x hx).1))); (have O6 := Lib.hid o6); clear o6 g6 n6 B5 O5 y5))
        all_goals exact ⟨v1, v2, rfl, B6, O6⟩
      rintro v1 v2 w6 ⟨B6, O6⟩
      have LT := Lib.hid J.out.lt
      have W : Hid (RS w (fun x => F x ∨ G x) v2 (recs ++ xs) w6) := Lib.hid ⟨own_from (by simpa using O6.out) J.out.ds.bel.size, fun x hx e => by have := (O6.out.lt x hx).1; have := LT.out x e; omega⟩
      replace J := Lib.hid (J.out.below B6.out)
      replace R := Lib.hid (R.out.stp (Stp.below B6.out))
      clear B6 O6 y1 y2 y3 LT
      have y2 := HC2.out _ J.out.ds.bel
      have y3 := HC3.out _ J.out.ds.bel
      have y4 := HC4.out _ J.out.ds.bel
      go_wp2_with fail
      have hat : 0 ≤ max 0 (sp.tmod 100) ∧ max 0 (sp.tmod 100) ≤ 100 := by have := Int.tmod_lt_of_pos sp (show (0 : Int) < 100 by decide); omega
      generalize max 0 (sp.tmod 100) = q at *
      have hq1 : q ≤ 9223372036854775807 := by omega
      have HQ5 : Hid (q.tmod 5 ≤ 9223372036854775807) := Lib.hid (by have := Int.tmod_lt_of_pos q (show (0 : Int) < 5 by decide); omega)
      have HQ1 := Lib.hid hq1
      clear hat hq1
      refine wp_region_still_tail 12 (by decide) (by kernel_rfl) ?_
      simp only [List.take_succ_cons, List.take_zero, List.drop_succ_cons, List.drop_zero]
      change wpStill _ _ (World.drew w6) _ _ _
      repeat still_step
      refine wpStill_nil ?_
      change wpList _ _ _ _ _ (World.drew w6)
      have b7 : Below w6.heap.size w6 w6.drew := (Below.refl _ _).drew
      replace J := Lib.hid (J.out.below b7)
      replace R := Lib.hid (R.out.stp (Stp.below b7))
      replace W := Lib.hid (W.out.stp (Stp.below b7))
      have HC := Lib.hid (js_arm w w6.drew F G d jb n c S recs none q wr' by' J.out HQ1.out)
      clear b7 y2 y3 y4
      go_wp2_with fail
      refine HC.out.mono ?_
      rintro e w7 ⟨rfl, F1, al1, hj, hs⟩
      replace R := Lib.hid (R.out.stp hs)
      replace W := Lib.hid (W.out.stp hs)
      replace J := Lib.hid hj
      clear hj hs HC
      have y1 := HC1.out _ J.out.ds.bel
      have HC := Lib.hid (js_append_e w w7 F1 G d jb n c S recs al1 xs sv J.out (HSW.out _ _ J.out.ds.bel (fun x e => J.out.ge x e)) (by omega) (fun t ht => by have := sum_mem ht; omega) (by have := textP_dbl xs; omega) (by omega))
      go_wp2_with fail
      refine HC.out.mono ?_
      rintro e w8 ⟨code, F2, off, al2, T, c2, recs2, rfl, hd, ho, hs, hcase⟩
      replace R := Lib.hid (R.out.stp hs)
      replace W := Lib.hid (W.out.stp hs)
      have HO := Lib.hid ho
      have HK := Lib.hid hcase
      have HL2 : Hid (recs2.length ≤ 20 * (k + 1)) := Lib.hid (by
        rcases hcase with ⟨_, h⟩ | ⟨_, h⟩ | ⟨_, h⟩ | ⟨_, h | h⟩ <;> (rw [h]; try simp only [List.length_append]) <;> omega)
      clear J HC ho hcase hs y1
      have HC := Lib.hid (ds_fail w w8 F2 d n _ 0 0 hd (by simp))
      clear hd
      go_wp2_with fail
      refine HC.out.mono ?_
      rintro e w9 ⟨rfl, h9, s9⟩
      replace R := Lib.hid (R.out.stp s9)
      replace W := Lib.hid (W.out.stp s9)
      have HC := Lib.hid (ds_start w w9 F2 d n _ h9)
      clear h9 s9
      go_wp2_with fail
      refine HC.out.mono ?_
      rintro e w10 ⟨rfl, h10, s10⟩
      rw [fail_start] at h10
      have D := Lib.hid h10
      replace R := Lib.hid (R.out.stp s10)
      replace W := Lib.hid (W.out.stp s10)
      clear h10 s10 HC
      have y3 := HC3.out _ D.out.bel
      have y4 := HC4.out _ D.out.bel
      go_wp2_with fail
      refine wp_region_still_tail 13 (by decide) (by kernel_rfl) ?_
      simp only [List.take_succ_cons, List.take_zero, List.drop_succ_cons, List.drop_zero]
      change wpStill _ _ (World.drew w10) _ _ _
      repeat still_step
      refine wpStill_nil ?_
      change wpList _ _ _ _ _ (World.drew w10)
      have b7 : Below w10.heap.size w10 w10.drew := (Below.refl _ _).drew
      replace D := Lib.hid (D.out.below b7)
      replace R := Lib.hid (R.out.stp (Stp.below b7))
      replace W := Lib.hid (W.out.stp (Stp.below b7))
      have HC := Lib.hid (ds_arm_on w w10.drew F2 d n T none (q.tmod 5) by' wr' D.out HQ5.out)
      clear b7 y3 y4 D
      go_wp2_with fail
      refine HC.out.mono ?_
      rintro e w11 ⟨rfl, F3, al3, hd, hs⟩
      replace R := Lib.hid (R.out.stp hs)
      replace W := Lib.hid (W.out.stp hs)
      have HC := Lib.hid (ds_open_e w w11 F3 d n c2 T recs2 al3 hd h3 HO.out)
      clear hd hs HO
      go_wp2_with fail
      refine HC.out.mono ?_
      rintro e w12 ⟨code2, kv, ev, F4, off2, al4, T2, rfl, hd, ho, hs, hc2⟩
      replace R := Lib.hid (R.out.stp hs)
      replace W := Lib.hid (W.out.stp hs)
      have HO := Lib.hid ho
      have HE := Lib.hid hc2
      have HC := Lib.hid (ds_fail w w12 F4 d n _ 0 0 hd (by simp))
      clear hd ho hs hc2
      go_wp2_with fail
      refine HC.out.mono ?_
      rintro e w13 ⟨rfl, h13, s13⟩
      replace R := Lib.hid (R.out.stp s13)
      replace W := Lib.hid (W.out.stp s13)
      replace HE := Lib.hid (HE.out.imp id fun h => And.intro h.1 (h.2.stp s13))
      have HC := Lib.hid (ds_start w w13 F4 d n _ h13)
      clear h13 s13
      go_wp2_with fail
      refine HC.out.mono ?_
      rintro e w14 ⟨rfl, h14, s14⟩
      rw [fail_start] at h14
      replace R := Lib.hid (R.out.stp s14)
      replace W := Lib.hid (W.out.stp s14)
      replace HE := Lib.hid (HE.out.imp id fun h => And.intro h.1 (h.2.stp s14))
      have HC := Lib.hid (ds_open_n w w14 F4 d n c2 T2 recs2 h14 h3 HO.out)
      clear h14 s14 HO
      go_wp2_with fail
      refine HC.out.mono ?_
      rintro e w15 ⟨kb, gw, F5, G5, S5, rfl, hj, hs, hr, _⟩
      have J := Lib.hid hj
      have GR := Lib.hid hr
      replace R := Lib.hid (R.out.stp hs)
      replace W := Lib.hid (W.out.stp hs)
      replace HE := Lib.hid (HE.out.imp id fun h => And.intro h.1 (h.2.stp hs))
      clear hj hs hr HC
      have HC := Lib.hid (same_any w15 (fun _ => False) gw u8 recs2 recs GR.out.sr.zero R.out.sr.zero (by have := HL2.out; omega))
      go_wp2_with fail
      refine HC.out.mono ?_
      rintro e w16 ⟨rfl, hb⟩
      replace J := Lib.hid (J.out.below hb)
      replace GR := Lib.hid (GR.out.stp (Stp.below hb))
      replace W := Lib.hid (W.out.stp (Stp.below hb))
      replace HE := Lib.hid (HE.out.imp id fun h => And.intro h.1 (h.2.stp (Stp.below hb)))
      clear hb HC R
      have HC := Lib.hid (same_any w16 (fun _ => False) gw v2 recs2 (recs ++ xs) GR.out.sr.zero W.out.sr.zero (by have := HL2.out; omega))
      go_wp2_with fail
      refine HC.out.mono ?_
      rintro e w17 ⟨rfl, hb⟩
      replace J := Lib.hid (J.out.below hb)
      replace GR := Lib.hid (GR.out.stp (Stp.below hb))
      replace HE := Lib.hid (HE.out.imp id fun h => And.intro h.1 (h.2.stp (Stp.below hb)))
      clear hb HC W
      have hk : (code = 0 ∧ decide (recs2 = recs ++ xs) = true) ∨ (code = 2 ∧ decide (recs2 = recs) = true) ∨ (code = 22 ∧ decide (recs2 = recs) = true) ∨ (code = 21 ∧ (decide (recs2 = recs) = true ∨ decide (recs2 = recs ++ xs) = true)) := by
        simpa only [decide_eq_true_eq] using HK.out
      clear HK
      generalize decide (recs2 = recs) = b1 at *
      generalize decide (recs2 = recs ++ xs) = b2 at *
      rcases hk with ⟨rfl, hk⟩ | ⟨rfl, hk⟩ | ⟨rfl, hk⟩ | ⟨rfl, hk⟩ <;> rcases b1 with _ | _ <;> rcases b2 with _ | _ <;> first | exact absurd hk (by decide) | skip
      all_goals (
        clear hk
        rcases HE.out with rfl | ⟨rfl, he⟩
        · go_wp2_with fail
          go_roundw
          case rel => exact ⟨k + 1, F5, G5, kb, c2, S5, recs2, by omega, by go_num, rfl, HL2.out, J, GR⟩
          case measure => simp [intOf]; omega
        · have HC := Lib.hid (same_yes w17 ev gw recs2 he.sr GR.out.sr (by have := HL2.out; omega))
          clear he HE
          go_wp2_with fail
          refine HC.out.mono ?_
          rintro e w18 ⟨rfl, hb⟩
          replace J := Lib.hid (J.out.below hb)
          replace GR := Lib.hid (GR.out.stp (Stp.below hb))
          clear hb HC
          go_wp2_with fail
          go_roundw
          case rel => exact ⟨k + 1, F5, G5, kb, c2, S5, recs2, by omega, by go_num, rfl, HL2.out, J, GR⟩
          case measure => simp [intOf]; omega)
    · obtain rfl : k = l.length := by omega
      go_wp2_with fail
      go_ret
      exact ⟨rfl, J.out.ds.bel⟩
end Go.Proofs.YtihoomlaggihlaaDoor
