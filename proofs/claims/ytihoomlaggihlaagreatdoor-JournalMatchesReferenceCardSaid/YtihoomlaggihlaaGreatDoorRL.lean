/- The contract of the reference's Long. Under no condition but sizes. -/
/- The contracts of the reference journal's write, Records, Room and Append. Under no condition but sizes. -/
/- The contract of the reference journal's Append. Under no condition but sizes. -/
import Derived.Test.YtihoomlaggihlaaGreatDoorRP
import Derived.Test.YtihoomlaggihlaaGreatDoorKK
import Derived.Test.YtihoomlaggihlaaGreatDoorRB
import Derived.Test.YtihoomlaggihlaaGreatDoorRE
import Derived.Test.YtihoomlaggihlaaGreatDoorKG
import Derived.Test.YtihoomlaggihlaaGreatDoorLA
import Derived.Test.YtihoomlaggihlaaGreatDoorKJ
import Derived.Test.YtihoomlaggihlaaGreatDoorKQ
namespace Go.Proofs.YtihoomlaggihlaaGreatDoor
open Go.RowKit

set_option maxHeartbeats 2000000 in
set_option maxRecDepth 100000 in
theorem rlong_any (w : World) (v : Value) (xs : List (List UInt8)) (h : SR w (fun _ => False) v xs) (hm : xs.length ≤ 1000000) (hl : ∀ t ∈ xs, t.length ≤ 10000000) :
    Calls Tryz.prog 12 #[v] w fun e w' => e = .returned (.bool (longB xs)) ∧ w = w' := by
  obtain ⟨a, c, rfl, hc, hcs⟩ := h
  have HCS := Lib.hid hcs
  have HL := Lib.hid (fun k (hk : k < xs.length) => hl xs[k] (List.getElem_mem hk))
  have HY := Lib.hid (fun k (hk : k < xs.length) => longB_some (xs := xs) hk)
  have HN := Lib.hid (longB_none (xs := xs))
  clear hcs hl
  generalize longB xs = b at *
  go_enter Tryz.func12, Tryz.ntmps12
  go_wp2_with fail
  go_loop [3] (fun i => ∃ k : Nat, k ≤ xs.length ∧ i = .int .i64 k ∧ Hid (∀ j (hj : j < xs.length), j < k → ¬ 20000 < xs[j].length)) (fun i => xs.length - (intOf i).toNat)
  case atStart => exact ⟨0, by omega, rfl, Lib.hid fun j _ h => absurd h (Nat.not_lt_zero _)⟩
  case round =>
    obtain ⟨k, hk, rfl, M⟩ := hrel
    have hk0 : (0 : Int) ≤ (k : Int) := Int.natCast_nonneg _
    by_cases hlt : k < xs.length
    · obtain ⟨bk, o, rfl, _, hcell⟩ := HCS.out k hlt
      have hk1 : (k : Int) < (xs.length : Int) := by omega
      have hsz : (⟨xs[k].toArray⟩ : ByteArray).size = xs[k].length := by simp [ByteArray.size]
      have hx := HL.out k hlt
      by_cases hb : 20000 < xs[k].length
      · have HB := Lib.hid (HY.out k hlt hb)
        have hbi : (20000 : Int) < (xs[k].length : Int) := by omega
        go_wp2_with fail
        go_ret
        exact ⟨by rw [HB.out]; rfl, rfl⟩
      · have M2 : Hid (∀ j (hj : j < xs.length), j < k + 1 → ¬ 20000 < xs[j].length) := Lib.hid fun j hj h => by
          rcases Nat.lt_or_ge j k with e | e
          · exact M.out j hj e
          · obtain rfl : j = k := by omega
            exact hb
        have hbi : (xs[k].length : Int) ≤ 20000 := by omega
        clear hb
        go_wp2_with fail
        go_round
        case rel => exact ⟨k + 1, by omega, by go_num, M2⟩
        case measure => simp [intOf]; omega
    · obtain rfl : k = xs.length := by omega
      have HB := Lib.hid (HN.out fun j hj => M.out j hj hj)
      go_wp2_with fail
      go_ret
      exact ⟨by rw [HB.out]; rfl, rfl⟩
end Go.Proofs.YtihoomlaggihlaaGreatDoor

namespace Go.Proofs.YtihoomlaggihlaaGreatDoor
open Go.RowKit

/-- places one behind the other -/
def PL (w : World) (F : Nat → Prop) (v : Value) (place n : Nat) : Prop := ∃ a c, v = .slice a n c ∧ n ≤ c ∧ ∀ k, k < n → ∃ b o, a = some ⟨b, o, none⟩ ∧ ¬ F b ∧ w.cell? ⟨b, o + k, none⟩ = some (.int .i64 ((place + k : Nat) : Int))
theorem PL.stp {w w' : World} {F F' : Nat → Prop} {v : Value} {p n : Nat} (h : PL w F v p n) (o : Stp F w F' w') : PL w' F' v p n := by
  obtain ⟨a, c, rfl, hc, hcs⟩ := h
  refine ⟨a, c, rfl, hc, fun k hk => ?_⟩
  obtain ⟨b, o', rfl, hb, hcell⟩ := hcs k hk
  have hl := cell_lt hcell
  refine ⟨b, o', rfl, fun e => ?_, ?_⟩
  · rcases o.sub b e with y | y
    · exact hb y
    · have : b < w.heap.size := hl
      omega
  · rw [cell_same (a := ⟨b, o' + k, none⟩) (o.out.block _ hl hb)]
    exact hcell
/-- places as cells -/
def ints (place n : Nat) : List Value := (List.range n).map fun k => .int .i64 ((place + k : Nat) : Int)
theorem ints_succ (p n : Nat) : ints p (n + 1) = ints p n ++ [.int .i64 ((p + n : Nat) : Int)] := by simp [ints, List.range_succ]
theorem ints_len (p n : Nat) : (ints p n).length = n := by simp [ints]
theorem PL.own {w : World} {F : Nat → Prop} {base : Nat} {v : Value} {p n : Nat} (h : w.ownsRow base 3 1 v n (ints p n)) (hF : ∀ k, v.ownBlock = some k → ¬ F k) : PL w F v p n := by
  rcases h.2 with ⟨rfl, rfl⟩ | ⟨g, cap, cur, rfl, _, hg, hc, _⟩
  · exact ⟨none, 0, rfl, Nat.le_refl _, fun k hk => by omega⟩
  · refine ⟨some ⟨g, 0, none⟩, cap, rfl, hc, fun k hk => ⟨g, 0, rfl, hF g rfl, ?_⟩⟩
    rw [h.cellAt (0 + k) (by omega), Nat.zero_add]
    simp [ints, hk]
/-- writes done so far -/
structure RWriting (D : PD) (place : Nat) (texts : List (List UInt8)) (F : Nat → Prop) (wo : World) (d n k : Nat) (E : PD) (G : Nat → Prop) (w : World) : Prop where
  dat : RAt w G d n E
  stp : Stp F wo G w
  todo : D.writes (rowAt place texts) = E.writes (rowAt (place + k) (texts.drop k))
  len : E.pend.length ≤ D.pend.length + k
theorem RWriting.next {D E : PD} {place d n k : Nat} {texts : List (List UInt8)} {F G G' : Nat → Prop} {wo w w' : World} (h : RWriting D place texts F wo d n k E G w) (hk : k < texts.length) (h0 : (E.write (place + k) texts[k]).2 = 0) (hd : RAt w' G' d n (E.write (place + k) texts[k]).1) (hs : Stp G w G' w') : RWriting D place texts F wo d n (k + 1) (E.write (place + k) texts[k]).1 G' w' := by
  refine ⟨hd, h.stp.trans hs, ?_, Nat.le_trans (write_pend _ _ _) (by have := h.len; omega)⟩
  rw [h.todo, List.drop_eq_getElem_cons hk, rowAt, PD.writes, if_pos h0, Nat.add_assoc]
theorem RWriting.stop {D E : PD} {place d n k : Nat} {texts : List (List UInt8)} {F G : Nat → Prop} {wo w : World} (h : RWriting D place texts F wo d n k E G w) (hk : k < texts.length) (h0 : (E.write (place + k) texts[k]).2 = 21) : D.writes (rowAt place texts) = E.write (place + k) texts[k] := by
  rw [h.todo, List.drop_eq_getElem_cons hk, rowAt, PD.writes, if_neg (by rw [h0]; decide)]
theorem RWriting.done {D E : PD} {place d n : Nat} {texts : List (List UInt8)} {F G : Nat → Prop} {wo w : World} (h : RWriting D place texts F wo d n texts.length E G w) : D.writes (rowAt place texts) = E.sync := by
  rw [h.todo, List.drop_length]; rfl
set_option maxHeartbeats 4000000 in
set_option maxRecDepth 100000 in
theorem rjwrite_any (w : World) (F : Nat → Prop) (jb d n place : Nat) (D : PD) (cs : Array Value) (v u : Value) (texts : List (List UInt8)) (h : RAt w F d n D) (hj : w.heap[jb]? = some (.cells cs 81 (0, 0))) (hc : cs[0]? = some (.pointer (some ⟨d, 0, none⟩))) (hF : ¬ F jb) (hu : PL w F u place texts.length) (hv : SR w F v texts) (h64 : ∀ t ∈ texts, t.length = 64) (hp : place + texts.length ≤ n) (hm : D.pend.length ≤ 5000) :
    Calls Tryz.prog 60 #[.pointer (some ⟨jb, 0, none⟩), u, v] w fun e w' => e = .returned (.int .i64 (D.writes (rowAt place texts)).2) ∧ ∃ F', RAt w' F' d n (D.writes (rowAt place texts)).1 ∧ Stp F w F' w' := by
  have hn := h.n4
  have H0 : Hid (RWriting D place texts F w d n 0 D F w) := Lib.hid ⟨h, Stp.refl _ _, rfl, Nat.le_refl _⟩
  have HJ := Lib.hid hj
  have HC := Lib.hid hc
  have HF := Lib.hid hF
  have H64 := Lib.hid h64
  have hjl := heap_lt hj
  obtain ⟨a, c, rfl, hcc, hcs⟩ := hv
  have HV : Hid (SR w F (.slice a texts.length c) texts) := Lib.hid ⟨a, c, rfl, hcc, hcs⟩
  obtain ⟨ua, uc, rfl, hucc, hucs⟩ := hu
  have HU : Hid (PL w F (.slice ua texts.length uc) place texts.length) := Lib.hid ⟨ua, uc, rfl, hucc, hucs⟩
  clear h hj hc hF h64 hcs hucs
  go_enter Tryz.func60, Tryz.ntmps60
  go_wp2_with fail
  obtain ⟨wo, rfl⟩ : ∃ wo : World, wo = w := ⟨_, rfl⟩
  go_loopw [7] (fun i wr => ∃ (k : Nat) (E : PD) (G : Nat → Prop), k ≤ texts.length ∧ i = .int .i64 k ∧ Hid (RWriting D place texts F wo d n k E G wr)) (fun i _ => texts.length - (intOf i).toNat)
  case atStart => exact ⟨0, D, F, by omega, rfl, H0⟩
  case round =>
    clear H0
    obtain ⟨k, E, G, hk, rfl, M⟩ := hrel
    have hk0 : (0 : Int) ≤ (k : Int) := Int.natCast_nonneg _
    have hjr : wr.heap[jb]? = some (.cells cs 81 (0, 0)) := M.out.stp.out.heap HJ.out HF.out
    have cj := cell_at hjr HC.out
    have hjl2 := heap_lt hjr
    have hpl := M.out.len
    clear hjr
    by_cases hlt : k < texts.length
    · obtain ⟨a', c', e1, _, hcs⟩ := HV.out.stp M.out.stp
      cases e1
      obtain ⟨b, o, rfl, _, hcell⟩ := hcs k hlt
      obtain ⟨a', c', e1, _, hcs2⟩ := HU.out.stp M.out.stp
      cases e1
      obtain ⟨b2, o2, rfl, _, hcell2⟩ := hcs2 k hlt
      have hk1 : (k : Int) < (texts.length : Int) := by omega
      have BD := Lib.hid (Gr.drewn wr).below
      have HW := Lib.hid (rwrite_any wr.drew G d n E (place + k) texts[k] (M.out.dat.below BD.out) (by omega) (H64.out _ (List.getElem_mem hlt)) (by omega))
      have hbl := cell_lt hcell
      have hbl2 := cell_lt hcell2
      clear hcs hcs2
      generalize hpk : place + k = q at *
      have HPK := Lib.hid hpk
      clear hpk
      rcases write_cases E q texts[k] with h0 | h0
      · have HN := Lib.hid (fun G' w' => M.out.next (G' := G') (w' := w') hlt (by rw [HPK.out]; exact h0))
        rw [h0] at HW
        clear h0
        generalize texts[k] = tk at *
        go_wp2_with fail
        refine wp_region_still_tail 12 (by decide) (by kernel_rfl) ?_
        simp only [List.take_succ_cons, List.take_zero, List.drop_succ_cons, List.drop_zero]
        change wpStill _ _ (World.drew wr) _ _ _
        repeat still_step
        refine wpStill_nil ?_
        change wpList _ _ _ _ _ (World.drew wr)
        go_wp2_with fail
        refine HW.out.mono ?_
        rintro e w2 ⟨rfl, G', g1, g2⟩
        rw [HPK.out] at HN
        have M2 := Lib.hid (HN.out G' w2 g1 ((Stp.below BD.out).trans g2))
        clear g1 g2 HN HW
        go_wp2_with fail
        go_roundw
        case rel => exact ⟨k + 1, _, G', by omega, by go_num, M2⟩
        case measure => simp [intOf]; omega
      · have HS := Lib.hid (M.out.stop hlt (by rw [HPK.out]; exact h0))
        rw [HPK.out] at HS
        have HH := Lib.hid h0
        rw [h0] at HW
        clear h0
        generalize texts[k] = tk at *
        go_wp2_with fail
        refine wp_region_still_tail 12 (by decide) (by kernel_rfl) ?_
        simp only [List.take_succ_cons, List.take_zero, List.drop_succ_cons, List.drop_zero]
        change wpStill _ _ (World.drew wr) _ _ _
        repeat still_step
        refine wpStill_nil ?_
        change wpList _ _ _ _ _ (World.drew wr)
        go_wp2_with fail
        refine HW.out.mono ?_
        rintro e w2 ⟨rfl, G', g1, g2⟩
        have G1 := Lib.hid (And.intro g1 ((Stp.below BD.out).trans g2))
        clear g1 g2 HW
        go_wp2_with fail
        go_ret
        rw [HS.out]
        exact ⟨by rw [HH.out]; rfl, G', G1.out.1, M.out.stp.trans G1.out.2⟩
    · obtain rfl : k = texts.length := by omega
      have HS := Lib.hid M.out.done
      go_wp2_with fail
      refine (rsync_any wr G d n E M.out.dat).mono ?_
      rintro e w2 ⟨rfl, g1, g2⟩
      have G1 := Lib.hid (And.intro g1 g2)
      clear g1 g2
      go_wp2_with fail
      go_ret
      rw [HS.out]
      exact ⟨rfl, G, G1.out.1, M.out.stp.trans (Stp.same G1.out.2)⟩
/-- the reference journal in memory, its blocks in a footprint -/
structure RJ (w : World) (G : Nat → Prop) (jb d n c : Nat) (recs : List (List UInt8)) (brk : Bool) : Prop where
  mem : ∃ rv, w.heap[jb]? = some (.cells #[.pointer (some ⟨d, 0, none⟩), .int .i64 n, .int .i64 c, rv, .bool brk] 81 (0, 0)) ∧ w.ownsRow 0 9 1 rv recs.length (strs recs) ∧ ∀ k, rv.ownBlock = some k → G k
  gj : G jb
  lt : ∀ k, G k → k < w.heap.size
  le : c + 2 ≤ n
  rl : recs.length ≤ 100000
theorem RJ.out {w w' : World} {F G : Nat → Prop} {jb d n c : Nat} {recs : List (List UInt8)} {brk : Bool} (h : RJ w G jb d n c recs brk) (o : Out F w w') (hd : ∀ k, F k → ¬ G k) : RJ w' G jb d n c recs brk := by
  obtain ⟨rv, h1, h2, h3⟩ := h.mem
  exact ⟨⟨rv, o.heap h1 (fun x => hd _ x h.gj), o.own h2 (fun k hk x => hd _ x (h3 k hk)), h3⟩, h.gj, fun k hk => Nat.lt_of_lt_of_le (h.lt k hk) o.size, h.le, h.rl⟩
theorem RJ.below {w w' : World} {G : Nat → Prop} {jb d n c : Nat} {recs : List (List UInt8)} {brk : Bool} (h : RJ w G jb d n c recs brk) (o : Below w.heap.size w w') : RJ w' G jb d n c recs brk := h.out (Out.of_below (F := fun _ => False) o) (fun _ e => e.elim)
theorem RJ.stp {w w' : World} {F F' G : Nat → Prop} {jb d n c : Nat} {recs : List (List UInt8)} {brk : Bool} (h : RJ w G jb d n c recs brk) (hs : Stp F w F' w') (hFG : ∀ k, F k → ¬ G k) : RJ w' G jb d n c recs brk ∧ ∀ k, F' k → ¬ G k :=
  ⟨h.out hs.out hFG, fun k hk hg => by
    rcases hs.sub k hk with y | y
    · exact hFG k y hg
    · have := h.lt k hg; omega⟩
theorem RJ.sr {w : World} {G : Nat → Prop} {jb d n c : Nat} {recs : List (List UInt8)} {brk : Bool} (h : RJ w G jb d n c recs brk) : ∃ rv, w.heap[jb]? = some (.cells #[.pointer (some ⟨d, 0, none⟩), .int .i64 n, .int .i64 c, rv, .bool brk] 81 (0, 0)) ∧ SR w (fun _ => False) rv recs := by
  obtain ⟨rv, h1, h2, _⟩ := h.mem
  exact ⟨rv, h1, SR.own h2 (fun _ _ => id)⟩
set_option maxHeartbeats 4000000 in
set_option maxRecDepth 100000 in
theorem rroom_any (w : World) (G : Nat → Prop) (jb d n c : Nat) (recs : List (List UInt8)) (brk : Bool) (h : RJ w G jb d n c recs brk) (hn : n ≤ 4000) :
    Calls Tryz.prog 19 #[.pointer (some ⟨jb, 0, none⟩)] w fun e w' => e = .returned (.int .i64 ((n - 2 - c : Nat) : Int)) ∧ Below w.heap.size w w' := by
  obtain ⟨rv, h1, _⟩ := h.mem
  have c1 : w.cell? ⟨jb, 1, none⟩ = some (.int .i64 n) := cell_at h1 rfl
  have c2 : w.cell? ⟨jb, 2, none⟩ = some (.int .i64 c) := cell_at h1 rfl
  have hl := h.le
  have hjl := heap_lt h1
  have HE := Lib.hid (show (n : Int) - 2 - (c : Int) = ((n - 2 - c : Nat) : Int) by omega)
  have w1 : IntKind.i64.wrap ((n : Int) - 2) = (n : Int) - 2 := IntWalk.i64_in _ (by omega)
  have w2 : IntKind.i64.wrap ((n : Int) - 2 - (c : Int)) = (n : Int) - 2 - (c : Int) := IntWalk.i64_in _ (by omega)
  clear h h1
  go_enter Tryz.func19, Tryz.ntmps19
  go_wp2_with fail
  go_quiet (fail)
  go_wp2_with fail
  go_ret
  refine ⟨?_, (Gr.drewN w _).below⟩
  rw [← HE.out]; rfl
set_option maxHeartbeats 2000000 in
theorem rroom_nil (w : World) : Calls Tryz.prog 19 #[.pointer none] w fun e w' => e = .returned (.int .i64 0) ∧ w = w' := by
  go_enter Tryz.func19, Tryz.ntmps19
  go_wp2_with fail
  go_ret
  exact ⟨rfl, rfl⟩
set_option maxHeartbeats 2000000 in
theorem rrecords_any (w : World) (G : Nat → Prop) (jb d n c : Nat) (recs : List (List UInt8)) (brk : Bool) (h : RJ w G jb d n c recs brk) :
    Calls Tryz.prog 18 #[.pointer (some ⟨jb, 0, none⟩)] w fun e w' => ∃ g, e = .returned g ∧ SR w (fun _ => False) g recs ∧ w = w' := by
  obtain ⟨rv, h1, h2⟩ := h.sr
  have c3 : w.cell? ⟨jb, 3, none⟩ = some rv := cell_at h1 rfl
  have hjl := heap_lt h1
  have HS := Lib.hid h2
  clear h h1 h2
  go_enter Tryz.func18, Tryz.ntmps18
  go_wp2_with fail
  go_ret
  exact ⟨rv, rfl, HS.out, rfl⟩
set_option maxHeartbeats 2000000 in
theorem rrecords_nil (w : World) : Calls Tryz.prog 18 #[.pointer none] w fun e w' => e = .returned (.slice none 0 0) ∧ w = w' := by
  go_enter Tryz.func18, Tryz.ntmps18
  go_wp2_with fail
  go_ret
  exact ⟨rfl, rfl⟩
set_option maxHeartbeats 2000000 in
theorem rappend_nil (w : World) (v : Value) : Calls Tryz.prog 28 #[.pointer none, v] w fun e w' => e = .returned (.int .i64 1) ∧ w = w' := by
  go_enter Tryz.func28, Tryz.ntmps28
  go_wp2_with fail
  go_ret
  exact ⟨rfl, rfl⟩
set_option maxHeartbeats 2000000 in
theorem rappend_brk (w : World) (G : Nat → Prop) (jb d n c : Nat) (recs : List (List UInt8)) (v : Value) (h : RJ w G jb d n c recs true) : Calls Tryz.prog 28 #[.pointer (some ⟨jb, 0, none⟩), v] w fun e w' => e = .returned (.int .i64 11) ∧ w = w' := by
  obtain ⟨rv, h1, h2⟩ := h.sr
  have c4 : w.cell? ⟨jb, 4, none⟩ = some (.bool true) := cell_at h1 rfl
  have hjl := heap_lt h1
  clear h h1 h2
  go_enter Tryz.func28, Tryz.ntmps28
  go_wp2_with fail
  go_ret
  exact ⟨rfl, rfl⟩
end Go.Proofs.YtihoomlaggihlaaGreatDoor

namespace Go.Proofs.YtihoomlaggihlaaGreatDoor
open Go.RowKit

theorem info3 : (Tryz.prog.info? 3).map (fun i => (i.zero, i.size, i.bytes)) = some (some (.int .i64 0), 1, 8) := by kernel_rfl
theorem row_apart {w : World} {B B' e e' s s' n n' : Nat} {v v' : Value} {xs xs' : List Value} (h : w.ownsRow B e s v n xs) (g : w.ownsRow B' e' s' v' n' xs') (he : e ≠ e') : ∀ x, v.ownBlock = some x → v'.ownBlock = some x → False := fun x h1 h2 => by
  rcases h.2 with ⟨rfl, _⟩ | ⟨q, cap, cur, rfl, _, hq, _⟩
  · cases h1
  · rcases g.2 with ⟨rfl, _⟩ | ⟨r, cap', cur', rfl, _, hr, _⟩
    · cases h2
    · cases h1
      cases h2
      exact tag_ne hq hr he rfl
theorem row_kept {w w' : World} {B e s n : Nat} {v u : Value} {xs : List Value} (h : w.ownsRow B e s v n xs) (hg : w.grownBy w' u.ownBlock) (hd : ∀ x, v.ownBlock = some x → u.ownBlock = some x → False) : w'.ownsRow B e s v n xs := by
  refine h.kept hg ?_
  cases hv : v.ownBlock with
  | none => exact Or.inl rfl
  | some x => exact Or.inr (fun e => hd x hv e.symm)
/-- the three rows that Append makes -/
structure PW (wo : World) (c : Nat) (ps : List (List UInt8)) (k6 k7 k8 : Nat) (v6 v7 v8 : Value) (w : World) : Prop where
  bel : Below wo.heap.size wo w
  o6 : w.ownsRow wo.heap.size 3 1 v6 k6 (ints (2 + c) k6)
  o7 : w.ownsRow wo.heap.size 9 1 v7 k7 (strs (List.replicate k7 zeroT))
  o8 : w.ownsRow wo.heap.size 9 1 v8 k8 (strs (sects (2 + c) (ps.take k8)))
  dj : ∀ x, v7.ownBlock = some x → v8.ownBlock = some x → False
theorem PW.start (wo : World) (c : Nat) (ps : List (List UInt8)) : PW wo c ps 0 0 0 (.slice none 0 0) (.slice none 0 0) (.slice none 0 0) wo :=
  ⟨Below.refl _ _, World.ownsRow_nil _ _ _ _, World.ownsRow_nil _ _ _ _, World.ownsRow_nil _ _ _ _, fun x h => by cases h⟩
theorem PW.keep {wo w w' : World} {c k6 k7 k8 : Nat} {ps : List (List UInt8)} {v6 v7 v8 : Value} (h : PW wo c ps k6 k7 k8 v6 v7 v8 w) (hb : Below w.heap.size w w') : PW wo c ps k6 k7 k8 v6 v7 v8 w' :=
  ⟨h.bel.trans (hb.mono h.bel.size), own_below h.o6 hb, own_below h.o7 hb, own_below h.o8 hb, h.dj⟩
theorem PW.s6 {wo w w' : World} {c k6 k7 k8 : Nat} {ps : List (List UInt8)} {v6 v7 v8 v' : Value} (h : PW wo c ps k6 k7 k8 v6 v7 v8 w) (ho : w'.ownsRow wo.heap.size 3 1 v' (k6 + 1) (ints (2 + c) k6 ++ [.int .i64 ((2 + c + k6 : Nat) : Int)])) (hg : w.grownBy w' v6.ownBlock) : PW wo c ps (k6 + 1) k7 k8 v' v7 v8 w' :=
  ⟨h.bel.grown hg h.bel.size (fun k hk => (h.o6.lt k hk).1), by rw [ints_succ]; exact ho, row_kept h.o7 hg (row_apart h.o7 h.o6 (by decide)), row_kept h.o8 hg (row_apart h.o8 h.o6 (by decide)), h.dj⟩
theorem PW.s7 {wo w w' : World} {c k6 k7 k8 g cap : Nat} {ps : List (List UInt8)} {v6 v7 v8 : Value} (h : PW wo c ps k6 k7 k8 v6 v7 v8 w) (ho : w'.ownsRow wo.heap.size 9 1 (.slice (some ⟨g, 0, none⟩) (k7 + 1) cap) (k7 + 1) (strs (List.replicate k7 zeroT) ++ strs [zeroT])) (hg : w.grownBy w' v7.ownBlock) (hl : v7.ownBlock = some g ∨ g = w.heap.size) : PW wo c ps k6 (k7 + 1) k8 v6 (.slice (some ⟨g, 0, none⟩) (k7 + 1) cap) v8 w' :=
  ⟨h.bel.grown hg h.bel.size (fun k hk => (h.o7.lt k hk).1), row_kept h.o6 hg (row_apart h.o6 h.o7 (by decide)), by rw [List.replicate_succ', strs_app]; exact ho, row_kept h.o8 hg (fun x a b => h.dj x b a), fun x a b => by
    cases a
    rcases hl with e | e
    · exact h.dj _ e b
    · have h2 : g < w.heap.size := (h.o8.lt _ b).2
      omega⟩
theorem PW.s8 {wo w w' : World} {c k6 k7 k8 g cap : Nat} {ps : List (List UInt8)} {v6 v7 v8 : Value} (h : PW wo c ps k6 k7 k8 v6 v7 v8 w) (hk : k8 < ps.length) (ho : w'.ownsRow wo.heap.size 9 1 (.slice (some ⟨g, 0, none⟩) (k8 + 1) cap) (k8 + 1) (strs (sects (2 + c) (ps.take k8)) ++ strs [sectP (2 + c + k8) ps[k8]])) (hg : w.grownBy w' v8.ownBlock) (hl : v8.ownBlock = some g ∨ g = w.heap.size) : PW wo c ps k6 k7 (k8 + 1) v6 v7 (.slice (some ⟨g, 0, none⟩) (k8 + 1) cap) w' :=
  ⟨h.bel.grown hg h.bel.size (fun k hk => (h.o8.lt k hk).1), row_kept h.o6 hg (row_apart h.o6 h.o8 (by decide)), row_kept h.o7 hg h.dj, by rw [sects_take ps (2 + c) k8 hk, strs_app]; exact ho, fun x a b => by
    cases b
    rcases hl with e | e
    · exact h.dj _ a e
    · have h2 : g < w.heap.size := (h.o7.lt _ a).2
      omega⟩
/-- a disk on which some of the stages are done -/
structure RSt (w0 : World) (F : Nat → Prop) (d n : Nat) (D : PD) (segs rest : List (List (Nat × List UInt8))) (E : PD) (F' : Nat → Prop) (w : World) : Prop where
  dat : RAt w F' d n E
  stp : Stp F w0 F' w
  todo : D.runs segs = E.runs rest
  pend : E.pend.length ≤ 1000
theorem RSt.below {w0 w w' : World} {F F' : Nat → Prop} {d n : Nat} {D E : PD} {segs rest : List (List (Nat × List UInt8))} (h : RSt w0 F d n D segs rest E F' w) (hb : Below w.heap.size w w') : RSt w0 F d n D segs rest E F' w' :=
  ⟨h.dat.below hb, h.stp.trans (Stp.below hb), h.todo, h.pend⟩
theorem sync_zero (D : PD) (h : D.sync.2 = 0) : D.sync.1.pend = [] := by
  unfold PD.sync at *
  split at h
  · cases h
  · rename_i h1
    rw [if_neg h1]
    split at h
    · rename_i h2
      rw [if_pos h2]
    · rename_i h2
      exact absurd h h2
theorem writes_zero : ∀ (s : List (Nat × List UInt8)) (D : PD), (D.writes s).2 = 0 → (D.writes s).1.pend = []
  | [], D, h => sync_zero D h
  | q :: s, D, h => by
    rw [PD.writes] at h ⊢
    by_cases h1 : (D.write q.1 q.2).2 = 0
    · rw [if_pos h1] at h ⊢
      exact writes_zero s _ h
    · rw [if_neg h1] at h
      exact absurd h h1
theorem RSt.next {w0 w w' : World} {F F' F2 : Nat → Prop} {d n : Nat} {D E : PD} {segs rest : List (List (Nat × List UInt8))} {s : List (Nat × List UInt8)} (h : RSt w0 F d n D segs (s :: rest) E F' w) (h0 : (E.writes s).2 = 0) (hd : RAt w' F2 d n (E.writes s).1) (hs : Stp F' w F2 w') : RSt w0 F d n D segs rest (E.writes s).1 F2 w' :=
  ⟨hd, h.stp.trans hs, by rw [h.todo, PD.runs, if_pos h0], by rw [writes_zero s E h0]; exact Nat.zero_le _⟩
theorem RSt.stop {w0 w : World} {F F' : Nat → Prop} {d n : Nat} {D E : PD} {segs rest : List (List (Nat × List UInt8))} {s : List (Nat × List UInt8)} (h : RSt w0 F d n D segs (s :: rest) E F' w) (h0 : (E.writes s).2 = 21) : D.runs segs = E.writes s := by
  rw [h.todo, PD.runs, if_neg (by rw [h0]; decide)]
/-- what the reference's Append leaves where it writes -/
def RPost (w : World) (F G : Nat → Prop) (jb d n c : Nat) (D : PD) (recs xs ps : List (List UInt8)) (e : Ending) (w' : World) : Prop :=
  ∃ F' G', RAt w' F' d n (D.runs (appSegs c ps)).1 ∧ Stp (fun k => F k ∨ G k) w (fun k => F' k ∨ G' k) w' ∧ (∀ k, F' k → ¬ G' k) ∧
    (((D.runs (appSegs c ps)).2 = 0 ∧ e = .returned (.int .i64 0) ∧ RJ w' G' jb d n (c + ps.length) (recs ++ xs) false) ∨
     ((D.runs (appSegs c ps)).2 = 21 ∧ e = .returned (.int .i64 21) ∧ RJ w' G' jb d n c recs true))
theorem rset {w : World} {jb : Nat} {a b c d e : Value} (h : w.heap[jb]? = some (.cells #[a, b, c, d, e] 81 (0, 0))) (u : Value) :
    (w.setCell ⟨jb, 4, none⟩ u).heap[jb]? = some (.cells #[a, b, c, d, u] 81 (0, 0)) ∧ (w.setCell ⟨jb, 3, none⟩ u).heap[jb]? = some (.cells #[a, b, c, u, e] 81 (0, 0)) ∧ (w.setCell ⟨jb, 2, none⟩ u).heap[jb]? = some (.cells #[a, b, u, d, e] 81 (0, 0)) := by
  refine ⟨?_, ?_, ?_⟩
  · have k := heap_setCell_same w jb 4 _ _ u h
    simpa using k
  · have k := heap_setCell_same w jb 3 _ _ u h
    simpa using k
  · have k := heap_setCell_same w jb 2 _ _ u h
    simpa using k
theorem wide {F G F' : Nat → Prop} {w w' : World} (h : Stp F w F' w') : Stp (fun k => F k ∨ G k) w (fun k => F' k ∨ G k) w' :=
  ⟨h.out.mono fun _ _ e => Or.inl e, fun k e => by
    rcases e with e | e
    · rcases h.sub k e with y | y
      · exact Or.inl (Or.inl y)
      · exact Or.inr y
    · exact Or.inl (Or.inr e)⟩
theorem rapp_fail {w wr : World} {F G F' : Nat → Prop} {jb d n c : Nat} {D E : PD} {recs xs ps : List (List UInt8)} (hJ : RJ w G jb d n c recs false) (hFG : ∀ k, F k → ¬ G k) (hs : Stp F w F' wr) (hd : RAt wr F' d n E) (hr : D.runs (appSegs c ps) = (E, 21)) :
    (∃ a b e v u, wr.heap[jb]? = some (.cells #[a, b, e, v, u] 81 (0, 0))) ∧ RPost w F G jb d n c D recs xs ps (.returned (.int .i64 21)) (wr.setCell ⟨jb, 4, none⟩ (.bool true)) := by
  obtain ⟨h1, h2⟩ := hJ.stp hs hFG
  obtain ⟨rv, m1, m2, m3⟩ := h1.mem
  have o1 : Out (· = jb) wr (wr.setCell ⟨jb, 4, none⟩ (.bool true)) := Out.set wr (a := ⟨jb, 4, none⟩) _ rfl
  refine ⟨⟨_, _, _, _, _, m1⟩, F', G, ?_, ?_, h2, Or.inr ⟨by rw [hr], rfl, ⟨rv, (rset m1 _).1, o1.own m2 (row_tag m2 m1 (by decide)), m3⟩, h1.gj, fun k hk => Nat.lt_of_lt_of_le (h1.lt k hk) o1.size, h1.le, h1.rl⟩⟩
  · rw [hr]
    exact hd.out o1 (fun k hk e => h2 k hk (by rw [e]; exact h1.gj))
  · exact ⟨(wide hs).out.trans (o1.mono (G := fun k => F' k ∨ G k) (fun k _ e => Or.inr (by rw [e]; exact h1.gj))) (wide hs).sub, (wide hs).sub⟩
theorem own_mt (w : World) (B : Nat) (hB : B ≤ w.heap.size) : (w.alloc (.cells #[] 9)).ownsRow B 9 1 (.slice (some ⟨w.heap.size, 0, none⟩) 0 0) 0 (strs []) :=
  ⟨rfl, Or.inr ⟨w.heap.size, 0, #[], rfl, hB, heap_alloc_new w _, Nat.le_refl _, by unfold maxLen; omega, rfl, rfl⟩⟩
set_option maxHeartbeats 32000000 in
set_option maxRecDepth 100000 in
theorem rappend_main (w : World) (F G : Nat → Prop) (jb d n c : Nat) (D : PD) (recs xs : List (List UInt8)) (v : Value) (hD : RAt w F d n D) (h : RJ w G jb d n c recs false) (hFG : ∀ k, F k → ¬ G k) (hv : SR w (fun k => F k ∨ G k) v xs) (hm : xs.length ≤ 100000) (hx : xs ≠ []) (hb : longB xs = false) (ht : (textP xs).length ≤ 10000000) (hr : (pieces (textP xs)).length ≤ n - 2 - c) (hp : D.pend.length ≤ 1000) (hrl : recs.length + xs.length ≤ 100000) :
    Calls Tryz.prog 28 #[.pointer (some ⟨jb, 0, none⟩), v] w (RPost w F G jb d n c D recs xs (pieces (textP xs))) := by
  have hn := hD.n4
  have hcn := h.le
  have HD := Lib.hid hD
  have HJ := Lib.hid h
  have HFG := Lib.hid hFG
  have hv0 := hv.weak (G := fun _ => False) (fun _ _ => False.elim)
  have HV := Lib.hid hv
  have hl : ∀ t ∈ xs, t.length ≤ 10000000 := fun t ht => Nat.le_trans (longB_ok hb t ht) (by decide)
  have HLO := Lib.hid (rlong_any w v xs hv0 (by omega) hl)
  rw [hb] at HLO
  have HTX := Lib.hid (rtext_any w v xs hv0 ht)
  have HPC := Lib.hid (fun W => rpieces_any W (textP xs) ht)
  have HP46 := Lib.hid (pieces_len _ (textP xs) (Nat.le_refl _))
  have hxl := List.length_pos_iff.2 hx
  obtain ⟨va, vc, rfl, hvc, _⟩ := hv0
  obtain ⟨rv, m1, _, _⟩ := h.mem
  have y4 : w.cell? ⟨jb, 4, none⟩ = some (.bool false) := cell_at m1 rfl
  have hjl := heap_lt m1
  clear hD h hFG hv hl hb hx m1
  generalize hps : pieces (textP xs) = ps at *
  clear hps ht
  generalize textP xs = tx at *
  go_enter Tryz.func28, Tryz.ntmps28
  go_wp2_with fail
  refine HLO.out.mono ?_
  rintro e w1 ⟨rfl, rfl⟩
  clear HLO
  go_wp2_with fail
  refine HTX.out.mono ?_
  rintro e w1 ⟨rfl, hb1⟩
  have B1 := Lib.hid hb1
  clear hb1 HTX
  go_wp2_with fail
  refine (HPC.out w1).mono ?_
  rintro e w2 ⟨pv, rfl, hpo, hb2⟩
  have B2 := Lib.hid (B1.out.trans (hb2.mono B1.out.size))
  have HPS := Lib.hid (SR.own (F := fun _ => False) hpo (fun _ _ => id))
  obtain ⟨pa, pc, rfl, hpc, _⟩ := HPS.out
  clear hpo hb2 HPC B1
  have HRM := Lib.hid (rroom_any w2 G jb d n c recs false (HJ.out.below B2.out) hn)
  have hri : (ps.length : Int) ≤ ((n - 2 - c : Nat) : Int) := by omega
  have hrd : decide (n - 2 - c < ps.length) = false := by rw [decide_eq_false_iff_not]; omega
  have hrn : ¬ (n - 2 - c < ps.length) := by omega
  have hx0 : ((xs.length : Int) == 0) = false := by rw [beq_eq_false_iff_ne]; omega
  go_wp2_with fail
  refine HRM.out.mono ?_
  rintro e w3 ⟨rfl, hb3⟩
  have B3 := Lib.hid (B2.out.trans (hb3.mono B2.out.size))
  replace HPS := Lib.hid (HPS.out.below hb3)
  clear hb3 HRM B2
  have M0 := Lib.hid (PW.start w3 c ps)
  go_wp2_with fail
  obtain ⟨wo, rfl⟩ : ∃ wo : World, wo = w3 := ⟨_, rfl⟩
  go_loopw [6, 7, 8, 9] (fun a6 a7 a8 i wr => ∃ k : Nat, k ≤ ps.length ∧ i = .int .i64 k ∧ Hid (PW wo c ps k k k a6 a7 a8 wr)) (fun _ _ _ i _ => ps.length - (intOf i).toNat)
  case atStart => exact ⟨0, by omega, rfl, M0⟩
  case round =>
    clear M0
    obtain ⟨k, hk, rfl, M⟩ := hrel
    have hk0 : (0 : Int) ≤ (k : Int) := Int.natCast_nonneg _
    have hz : wo.heap.size ≤ wr.heap.size := M.out.bel.size
    have BW := Lib.hid (B3.out.trans (M.out.bel.mono B3.out.size))
    obtain ⟨rv, m1, _, _⟩ := (HJ.out.below BW.out).mem
    have z2 : wr.cell? ⟨jb, 2, none⟩ = some (.int .i64 c) := cell_at m1 rfl
    have hjr := heap_lt m1
    clear m1
    by_cases hlt : k < ps.length
    · have hk1 : (k : Int) < (ps.length : Int) := by omega
      have HPK := Lib.hid (show ((2 + c + k : Nat) : Int) = (2 : Int) + (c : Int) + (k : Int) by omega)
      obtain ⟨i3, hi3, ha3, hb3, hc3⟩ := info_parts info3
      obtain ⟨i9, hi9, ha9, hb9, hc9⟩ := info_parts info9
      have A1 := Lib.hid (M.out.keep (Gr.one wr (.cells #[.int .i64 ((2 : Int) + (c : Int) + (k : Int))] 3)).below)
      go_wp2_with (at_builtin; refine wpList_append_lies _ rfl (.tmp 45) (.tmp 47) 83 rfl wo.heap.size 3 i3 _ 1 8 Tryz.underlying83 hi3 ha3 hb3 hc3 rfl (by decide) _ k (ints (2 + c) k) rfl A1.out.o6 ⟨wr.heap.size, 0, none⟩ 1 1 [.int .i64 ((2 : Int) + (c : Int) + (k : Int))] rfl rfl (news_one _ _ _) (by intro u hu; simp at hu; subst hu; rfl) (by decide) (by unfold maxLen; omega) (by omega) (by simp; omega) _ rfl ?_)
      intro g6 c6 w4 ho4 hg4 hl4 _
      have M4 := Lib.hid (A1.out.s6 (by rw [HPK.out]; exact ho4) hg4)
      clear ho4 hg4 hl4 A1 z2 hjr
      go_wp2_with fail
      refine (rzero_any w4).mono ?_
      rintro e w5 ⟨rfl, hb5⟩
      have M5 := Lib.hid (M4.out.keep hb5)
      clear hb5 M4
      have hz5 : wo.heap.size ≤ w5.heap.size := M5.out.bel.size
      have A2 := Lib.hid (M5.out.keep (Gr.one w5 (.cells #[.string ⟨zeroT.toArray⟩] 9)).below)
      go_wp2_with (at_builtin; refine wpList_append_lies _ rfl (.tmp 49) (.tmp 51) 26 rfl wo.heap.size 9 i9 _ 1 16 Tryz.underlying26 hi9 ha9 hb9 hc9 rfl (by decide) _ k (strs (List.replicate k zeroT)) rfl A2.out.o7 ⟨w5.heap.size, 0, none⟩ 1 1 (strs [zeroT]) rfl rfl (news_one _ _ _) (strs_one _) (by decide) (by unfold maxLen; omega) (by omega) (by simp; omega) _ rfl ?_)
      intro g7 c7 w6 ho6 hg6 hl6 _
      have M6 := Lib.hid (A2.out.s7 ho6 hg6 (by simpa using hl6))
      clear ho6 hg6 hl6 A2 M5 hz5
      obtain ⟨a', c', e1, _, hcs⟩ := HPS.out.below M6.out.bel
      cases e1
      obtain ⟨b, o, rfl, _, hcell⟩ := hcs k hlt
      have hbl := cell_lt hcell
      have h46 := (HP46.out ps[k] (List.getElem_mem hlt)).2
      have HSC := rsector_any w6 (2 + c + k) ps[k] (by omega) h46
      rw [HPK.out] at HSC
      replace HSC := Lib.hid HSC
      clear hcs
      go_wp2_with fail
      refine HSC.out.mono ?_
      rintro e w7 ⟨rfl, hb7⟩
      have hz7 : wo.heap.size ≤ w7.heap.size := by have := M6.out.bel.size; have := hb7.size; omega
      have A3 := Lib.hid (hb7.alloc hb7.size (.cells #[.string ⟨(sectP (2 + c + k) ps[k]).toArray⟩] 9))
      have O3 := Lib.hid ((M6.out.keep A3.out).o8)
      clear hb7 HSC hcell hbl
      go_wp2_with (at_builtin; refine wpList_append_lies _ rfl (.tmp 53) (.tmp 60) 26 rfl wo.heap.size 9 i9 _ 1 16 Tryz.underlying26 hi9 ha9 hb9 hc9 rfl (by decide) _ k (strs (sects (2 + c) (ps.take k))) rfl O3.out ⟨w7.heap.size, 0, none⟩ 1 1 (strs [sectP (2 + c + k) ps[k]]) rfl rfl (news_one _ _ _) (strs_one _) (by decide) (by unfold maxLen; omega) (by omega) (by simp; omega) _ rfl ?_)
      intro g8 c8 w8 ho8 hg8 hl8 _
      have M8 := Lib.hid (PW.s8 (M6.out.keep A3.out) hlt ho8 hg8 (by simpa using hl8))
      clear ho8 hg8 hl8 O3 A3 M6
      go_wp2_with fail
      go_roundw
      case rel => exact ⟨k + 1, by omega, by go_num, M8⟩
      case measure => simp [intOf]; omega
    · obtain rfl : k = ps.length := by omega
      have HRM : Hid (ps.map (fun _ => zeroT) = List.replicate ps.length zeroT) := Lib.hid (by simp [List.map_const'])
      have HTKE : Hid (ps.take ps.length = ps) := Lib.hid List.take_length
      have S0 : Hid (RSt w F d n D (appSegs c ps) [rowAt (2 + c) (ps.map fun _ => zeroT), rowAt (2 + c) (sects (2 + c) ps), [(1, headP 1 (c + ps.length))], [(0, headP 0 (c + ps.length))]] D F wr) := Lib.hid ⟨HD.out.below BW.out, Stp.below BW.out, rfl, hp⟩
      have HFL := Lib.hid HD.out.lt
      have HZ3 := Lib.hid B3.out.size
      have hf : ∀ (v : Value) (e n : Nat) (ys : List Value), wr.ownsRow wo.heap.size e 1 v n ys → ∀ k, v.ownBlock = some k → ¬ F k := fun v e n ys ho k hk e => by
        have := (ho.lt k hk).1
        have := HFL.out k e
        have := HZ3.out
        omega
      have P6 := Lib.hid (PL.own M.out.o6 (hf _ _ _ _ M.out.o6))
      have P7 := Lib.hid (SR.own (xs := List.replicate ps.length zeroT) (by rw [List.length_replicate]; exact M.out.o7) (hf _ _ _ _ M.out.o7))
      have P8 := Lib.hid (SR.own (xs := sects (2 + c) ps) (by rw [sects_len]; have := M.out.o8; rw [HTKE.out] at this; exact this) (hf _ _ _ _ M.out.o8))
      clear hf M
      have HH1 := Lib.hid (fun W => rhead_any W 1 (c + ps.length) (by omega) (by omega))
      have HH0 := Lib.hid (fun W => rhead_any W 0 (c + ps.length) (by omega) (by omega))
      have S0J : Hid (∃ rv, wr.heap[jb]? = some (.cells #[.pointer (some ⟨d, 0, none⟩), .int .i64 n, .int .i64 c, rv, .bool false] 81 (0, 0))) := Lib.hid (by obtain ⟨rv, m, _⟩ := (HJ.out.stp S0.out.stp HFG.out).1.mem; exact ⟨rv, m⟩)
      have S0F : Hid (¬ F jb) := Lib.hid (fun e => (HJ.out.stp S0.out.stp HFG.out).2 jb e HJ.out.gj)
      obtain ⟨rv0, mj0⟩ := S0J.out
      have MJ0 := Lib.hid mj0
      have hjl0 := heap_lt mj0
      clear mj0 S0J
      have HW := rjwrite_any wr F jb d n (2 + c) D _ _ _ (List.replicate ps.length zeroT) S0.out.dat MJ0.out rfl S0F.out (by rw [List.length_replicate]; exact P6.out) P7.out (fun t ht => by rw [List.eq_of_mem_replicate ht]; exact zeroT_len) (by rw [List.length_replicate]; omega) (by have := S0.out.pend; omega)
      rw [← HRM.out] at HW
      rcases writes_cases (rowAt (2 + c) (ps.map fun _ => zeroT)) D with hw | hw
      rotate_left
      · rw [hw] at HW
        replace HW := Lib.hid HW
        go_wp2_with fail
        refine HW.out.mono ?_
        rintro e w9 ⟨rfl, F9, g1, g2⟩
        obtain ⟨⟨a, b, e, v, u, mj⟩, fin⟩ := rapp_fail (xs := xs) HJ.out HFG.out (S0.out.stp.trans g2) g1 (by rw [S0.out.stop hw]; exact Prod.ext rfl hw : D.runs (appSegs c ps) = ((D.writes (rowAt (2 + c) (ps.map fun _ => zeroT))).1, 21))
        have HX := Lib.hid fin
        have ck := cell_at mj (show #[a, b, e, v, u][4]? = some u from rfl)
        have fk := frozen_at mj 4
        have hjm := heap_lt mj
        clear g1 g2 HW mj fin
        go_wp2_with fail
        go_ret
        exact HX.out
      rw [hw] at HW
      replace HW := Lib.hid HW
      go_wp2_with fail
      refine HW.out.mono ?_
      rintro e wq0 ⟨rfl, F1, g1, g2⟩
      have S1 := Lib.hid (S0.out.next hw g1 g2)
      replace P6 := Lib.hid (P6.out.stp g2)
      replace P8 := Lib.hid (P8.out.stp g2)
      clear P7
      clear g1 g2 HW hw S0 MJ0 S0F hjl0
      have S1J : Hid (∃ rv, wq0.heap[jb]? = some (.cells #[.pointer (some ⟨d, 0, none⟩), .int .i64 n, .int .i64 c, rv, .bool false] 81 (0, 0))) := Lib.hid (by obtain ⟨rv, m, _⟩ := (HJ.out.stp S1.out.stp HFG.out).1.mem; exact ⟨rv, m⟩)
      have S1F : Hid (¬ F1 jb) := Lib.hid (fun e => (HJ.out.stp S1.out.stp HFG.out).2 jb e HJ.out.gj)
      obtain ⟨rv1, mj1⟩ := S1J.out
      have MJ1 := Lib.hid mj1
      have hjl1 := heap_lt mj1
      clear mj1 S1J
      have HW := rjwrite_any wq0 F1 jb d n (2 + c) (D.writes (rowAt (2 + c) (ps.map fun _ => zeroT))).1 _ _ _ (sects (2 + c) ps) S1.out.dat MJ1.out rfl S1F.out (by rw [sects_len]; exact P6.out) P8.out (sects_64 _ _ (fun t ht => (HP46.out t ht).2)) (by rw [sects_len]; omega) (by have := S1.out.pend; omega)
      rcases writes_cases (rowAt (2 + c) (sects (2 + c) ps)) (D.writes (rowAt (2 + c) (ps.map fun _ => zeroT))).1 with hw | hw
      rotate_left
      · rw [hw] at HW
        replace HW := Lib.hid HW
        go_wp2_with fail
        refine HW.out.mono ?_
        rintro e w9 ⟨rfl, F9, g1, g2⟩
        obtain ⟨⟨a, b, e, v, u, mj⟩, fin⟩ := rapp_fail (xs := xs) HJ.out HFG.out (S1.out.stp.trans g2) g1 (by rw [S1.out.stop hw]; exact Prod.ext rfl hw : D.runs (appSegs c ps) = (((D.writes (rowAt (2 + c) (ps.map fun _ => zeroT))).1.writes (rowAt (2 + c) (sects (2 + c) ps))).1, 21))
        have HX := Lib.hid fin
        have ck := cell_at mj (show #[a, b, e, v, u][4]? = some u from rfl)
        have fk := frozen_at mj 4
        have hjm := heap_lt mj
        clear g1 g2 HW mj fin
        go_wp2_with fail
        go_ret
        exact HX.out
      rw [hw] at HW
      replace HW := Lib.hid HW
      go_wp2_with fail
      refine HW.out.mono ?_
      rintro e wq1 ⟨rfl, F2, g1, g2⟩
      have S2 := Lib.hid (S1.out.next hw g1 g2)
      clear g1 g2 HW hw S1 MJ1 S1F hjl1
      have HHA := HH1.out (wq1.alloc (.cells #[.int .i64 1] 3))
      rw [show ((1 : Nat) : Int) = 1 from rfl, Int.natCast_add] at HHA
      replace HHA := Lib.hid HHA
      have BA := Lib.hid (Gr.one wq1 (.cells #[.int .i64 1] 3)).below
      go_wp2_with fail
      refine HHA.out.mono ?_
      rintro e wh2 ⟨rfl, hbh⟩
      have BB := Lib.hid ((BA.out.trans (hbh.mono BA.out.size)).trans ((Gr.one wh2 (.cells #[.string ⟨(headP 1 (c + ps.length)).toArray⟩] 9)).below.mono (BA.out.trans (hbh.mono BA.out.size)).size))
      have hpc : (wh2.alloc (.cells #[.string ⟨(headP 1 (c + ps.length)).toArray⟩] 9)).cell? ⟨wq1.heap.size, 0, none⟩ = some (.int .i64 1) := (((hbh.trans ((Gr.one wh2 (.cells #[.string ⟨(headP 1 (c + ps.length)).toArray⟩] 9)).below.mono hbh.size)).cell (p := ⟨wq1.heap.size, 0, none⟩) (by simp)).trans (cell_at (heap_alloc_new wq1 (.cells #[.int .i64 1] 3)) rfl))
      have hbs := hbh.size
      have HLT2 := Lib.hid S2.out.dat.lt
      replace S2 := Lib.hid (S2.out.below BB.out)
      have HPP : Hid (PL (wh2.alloc (.cells #[.string ⟨(headP 1 (c + ps.length)).toArray⟩] 9)) F2 (.slice (some ⟨wq1.heap.size, 0, none⟩) 1 1) 1 [headP 1 (c + ps.length)].length) := Lib.hid ⟨_, 1, rfl, Nat.le_refl _, fun k hk => by
        obtain rfl : k = 0 := by simpa using hk
        exact ⟨_, _, rfl, fun e => by have := HLT2.out _ e; omega, hpc⟩⟩
      have HTT : Hid (SR (wh2.alloc (.cells #[.string ⟨(headP 1 (c + ps.length)).toArray⟩] 9)) F2 (.slice (some ⟨wh2.heap.size, 0, none⟩) 1 1) [headP 1 (c + ps.length)]) := Lib.hid (sr_one (headP 1 (c + ps.length)) (fun x hx => by have := HLT2.out _ hx; simp at hbs; omega))
      clear hpc hbh BA BB HHA hbs
      have S2J : Hid (∃ rv, (wh2.alloc (.cells #[.string ⟨(headP 1 (c + ps.length)).toArray⟩] 9)).heap[jb]? = some (.cells #[.pointer (some ⟨d, 0, none⟩), .int .i64 n, .int .i64 c, rv, .bool false] 81 (0, 0))) := Lib.hid (by obtain ⟨rv, m, _⟩ := (HJ.out.stp S2.out.stp HFG.out).1.mem; exact ⟨rv, m⟩)
      have S2F : Hid (¬ F2 jb) := Lib.hid (fun e => (HJ.out.stp S2.out.stp HFG.out).2 jb e HJ.out.gj)
      obtain ⟨rv2, mj2⟩ := S2J.out
      have MJ2 := Lib.hid mj2
      have hjl2 := heap_lt mj2
      clear mj2 S2J
      have HW := rjwrite_any (wh2.alloc (.cells #[.string ⟨(headP 1 (c + ps.length)).toArray⟩] 9)) F2 jb d n 1 ((D.writes (rowAt (2 + c) (ps.map fun _ => zeroT))).1.writes (rowAt (2 + c) (sects (2 + c) ps))).1 _ _ _ [headP 1 (c + ps.length)] S2.out.dat MJ2.out rfl S2F.out HPP.out HTT.out (by simp [head_len]) (by simp; omega) (by have := S2.out.pend; omega)
      rw [show rowAt 1 [headP 1 (c + ps.length)] = [(1, headP 1 (c + ps.length))] from rfl] at HW
      rcases writes_cases ([(1, headP 1 (c + ps.length))]) ((D.writes (rowAt (2 + c) (ps.map fun _ => zeroT))).1.writes (rowAt (2 + c) (sects (2 + c) ps))).1 with hw | hw
      rotate_left
      · rw [hw] at HW
        replace HW := Lib.hid HW
        go_wp2_with fail
        refine HW.out.mono ?_
        rintro e w9 ⟨rfl, F9, g1, g2⟩
        obtain ⟨⟨a, b, e, v, u, mj⟩, fin⟩ := rapp_fail (xs := xs) HJ.out HFG.out (S2.out.stp.trans g2) g1 (by rw [S2.out.stop hw]; exact Prod.ext rfl hw : D.runs (appSegs c ps) = ((((D.writes (rowAt (2 + c) (ps.map fun _ => zeroT))).1.writes (rowAt (2 + c) (sects (2 + c) ps))).1.writes ([(1, headP 1 (c + ps.length))])).1, 21))
        have HX := Lib.hid fin
        have ck := cell_at mj (show #[a, b, e, v, u][4]? = some u from rfl)
        have fk := frozen_at mj 4
        have hjm := heap_lt mj
        clear g1 g2 HW mj fin
        go_wp2_with fail
        go_ret
        exact HX.out
      rw [hw] at HW
      replace HW := Lib.hid HW
      go_wp2_with fail
      refine HW.out.mono ?_
      rintro e wq2 ⟨rfl, F3, g1, g2⟩
      have S3 := Lib.hid (S2.out.next hw g1 g2)
      clear g1 g2 HW hw S2 MJ2 S2F hjl2
      clear HPP HTT
      have HHA := HH0.out (wq2.alloc (.cells #[.int .i64 0] 3))
      rw [show ((0 : Nat) : Int) = 0 from rfl, Int.natCast_add] at HHA
      replace HHA := Lib.hid HHA
      have BA := Lib.hid (Gr.one wq2 (.cells #[.int .i64 0] 3)).below
      go_wp2_with fail
      refine HHA.out.mono ?_
      rintro e wh3 ⟨rfl, hbh⟩
      have BB := Lib.hid ((BA.out.trans (hbh.mono BA.out.size)).trans ((Gr.one wh3 (.cells #[.string ⟨(headP 0 (c + ps.length)).toArray⟩] 9)).below.mono (BA.out.trans (hbh.mono BA.out.size)).size))
      have hpc : (wh3.alloc (.cells #[.string ⟨(headP 0 (c + ps.length)).toArray⟩] 9)).cell? ⟨wq2.heap.size, 0, none⟩ = some (.int .i64 0) := (((hbh.trans ((Gr.one wh3 (.cells #[.string ⟨(headP 0 (c + ps.length)).toArray⟩] 9)).below.mono hbh.size)).cell (p := ⟨wq2.heap.size, 0, none⟩) (by simp)).trans (cell_at (heap_alloc_new wq2 (.cells #[.int .i64 0] 3)) rfl))
      have hbs := hbh.size
      have HLT3 := Lib.hid S3.out.dat.lt
      replace S3 := Lib.hid (S3.out.below BB.out)
      have HPP : Hid (PL (wh3.alloc (.cells #[.string ⟨(headP 0 (c + ps.length)).toArray⟩] 9)) F3 (.slice (some ⟨wq2.heap.size, 0, none⟩) 1 1) 0 [headP 0 (c + ps.length)].length) := Lib.hid ⟨_, 1, rfl, Nat.le_refl _, fun k hk => by
        obtain rfl : k = 0 := by simpa using hk
        exact ⟨_, _, rfl, fun e => by have := HLT3.out _ e; omega, hpc⟩⟩
      have HTT : Hid (SR (wh3.alloc (.cells #[.string ⟨(headP 0 (c + ps.length)).toArray⟩] 9)) F3 (.slice (some ⟨wh3.heap.size, 0, none⟩) 1 1) [headP 0 (c + ps.length)]) := Lib.hid (sr_one (headP 0 (c + ps.length)) (fun x hx => by have := HLT3.out _ hx; simp at hbs; omega))
      clear hpc hbh BA BB HHA hbs
      have S3J : Hid (∃ rv, (wh3.alloc (.cells #[.string ⟨(headP 0 (c + ps.length)).toArray⟩] 9)).heap[jb]? = some (.cells #[.pointer (some ⟨d, 0, none⟩), .int .i64 n, .int .i64 c, rv, .bool false] 81 (0, 0))) := Lib.hid (by obtain ⟨rv, m, _⟩ := (HJ.out.stp S3.out.stp HFG.out).1.mem; exact ⟨rv, m⟩)
      have S3F : Hid (¬ F3 jb) := Lib.hid (fun e => (HJ.out.stp S3.out.stp HFG.out).2 jb e HJ.out.gj)
      obtain ⟨rv3, mj3⟩ := S3J.out
      have MJ3 := Lib.hid mj3
      have hjl3 := heap_lt mj3
      clear mj3 S3J
      have HW := rjwrite_any (wh3.alloc (.cells #[.string ⟨(headP 0 (c + ps.length)).toArray⟩] 9)) F3 jb d n 0 (((D.writes (rowAt (2 + c) (ps.map fun _ => zeroT))).1.writes (rowAt (2 + c) (sects (2 + c) ps))).1.writes ([(1, headP 1 (c + ps.length))])).1 _ _ _ [headP 0 (c + ps.length)] S3.out.dat MJ3.out rfl S3F.out HPP.out HTT.out (by simp [head_len]) (by simp; omega) (by have := S3.out.pend; omega)
      rw [show rowAt 0 [headP 0 (c + ps.length)] = [(0, headP 0 (c + ps.length))] from rfl] at HW
      rcases writes_cases ([(0, headP 0 (c + ps.length))]) (((D.writes (rowAt (2 + c) (ps.map fun _ => zeroT))).1.writes (rowAt (2 + c) (sects (2 + c) ps))).1.writes ([(1, headP 1 (c + ps.length))])).1 with hw | hw
      rotate_left
      · rw [hw] at HW
        replace HW := Lib.hid HW
        go_wp2_with fail
        refine HW.out.mono ?_
        rintro e w9 ⟨rfl, F9, g1, g2⟩
        obtain ⟨⟨a, b, e, v, u, mj⟩, fin⟩ := rapp_fail (xs := xs) HJ.out HFG.out (S3.out.stp.trans g2) g1 (by rw [S3.out.stop hw]; exact Prod.ext rfl hw : D.runs (appSegs c ps) = (((((D.writes (rowAt (2 + c) (ps.map fun _ => zeroT))).1.writes (rowAt (2 + c) (sects (2 + c) ps))).1.writes ([(1, headP 1 (c + ps.length))])).1.writes ([(0, headP 0 (c + ps.length))])).1, 21))
        have HX := Lib.hid fin
        have ck := cell_at mj (show #[a, b, e, v, u][4]? = some u from rfl)
        have fk := frozen_at mj 4
        have hjm := heap_lt mj
        clear g1 g2 HW mj fin
        go_wp2_with fail
        go_ret
        exact HX.out
      rw [hw] at HW
      replace HW := Lib.hid HW
      go_wp2_with fail
      refine HW.out.mono ?_
      rintro e wq3 ⟨rfl, F4, g1, g2⟩
      have S4 := Lib.hid (S3.out.next hw g1 g2)
      clear g1 g2 HW hw S3 MJ3 S3F hjl3
      clear HPP HTT
      obtain ⟨J4, HF4⟩ := HJ.out.stp S4.out.stp HFG.out
      obtain ⟨rv4, mj4, mr4, mg4⟩ := J4.mem
      have V4 : SR wq3 (· = jb) (.slice va xs.length vc) xs := (HV.out.stp (wide (G := G) S4.out.stp)).weak (fun k _ e => Or.inr (by rw [e]; exact J4.gj))
      have R4 : SR wq3 (· = jb) rv4 recs := SR.own mr4 (row_tag mr4 mj4 (by decide))
      have o5 : Out (· = jb) wq3 (wq3.setCell ⟨jb, 2, none⟩ (.int .i64 ((c : Int) + (ps.length : Int)))) := Out.set wq3 (a := ⟨jb, 2, none⟩) _ rfl
      have mj5 := (rset mj4 (.int .i64 ((c : Int) + (ps.length : Int)))).2.2
      have c42 : wq3.cell? ⟨jb, 2, none⟩ = some (.int .i64 c) := cell_at mj4 rfl
      have c43 : wq3.cell? ⟨jb, 3, none⟩ = some rv4 := cell_at mj4 rfl
      have f42 := frozen_at mj4 2
      have hj4 := heap_lt mj4
      have c53 : (wq3.setCell ⟨jb, 2, none⟩ (.int .i64 ((c : Int) + (ps.length : Int)))).cell? ⟨jb, 3, none⟩ = some rv4 := cell_at mj5 rfl
      have f53 := frozen_at mj5 3
      have hj5 := heap_lt mj5
      have V5 := Lib.hid ((V4.out o5).weak (G := fun _ => False) (fun _ _ e => e.elim))
      have R5 := Lib.hid ((R4.out o5).weak (G := fun _ => False) (fun _ _ e => e.elim))
      have HM5 := Lib.hid mj5
      have HO5 := Lib.hid o5
      have HJ4 := Lib.hid J4
      have HF5 := Lib.hid HF4
      clear J4 HF4 mj4 mr4 mg4 V4 R4 o5 mj5
      have HSZ : Hid ((wq3.setCell ⟨jb, 2, none⟩ (.int .i64 ((c : Int) + (ps.length : Int)))).heap.size = wq3.heap.size) := Lib.hid (by simp)
      have BA := Lib.hid (Gr.one (wq3.setCell ⟨jb, 2, none⟩ (.int .i64 ((c : Int) + (ps.length : Int)))) (.cells #[] 9)).below
      have OM := own_mt (wq3.setCell ⟨jb, 2, none⟩ (.int .i64 ((c : Int) + (ps.length : Int)))) wq3.heap.size (by simp)
      rw [HSZ.out] at OM
      replace OM := Lib.hid OM
      have R6 := Lib.hid (R5.out.below BA.out)
      go_wp2_with (at_builtin; refine wpList_append_strs rfl (.tmp 106) (.tmp 110) rfl wq3.heap.size 0 (.slice (some ⟨wq3.heap.size, 0, none⟩) 0 0) [] recs (fun _ => False) rv4 rfl rfl OM.out R6.out (by omega) (by simp) ?_)
      intro v1 w6 o6 g6 _
      have B6 := Lib.hid (BA.out.grown g6 BA.out.size (fun x hx => by cases hx; rw [HSZ.out]; exact Nat.le_refl _))
      have O6 : Hid (w6.ownsRow wq3.heap.size 9 1 v1 recs.length (strs recs)) := Lib.hid (by simpa using o6)
      clear o6 g6
      go_wp2_with (at_builtin; refine wpList_append_strs rfl (.tmp 111) (.tmp 112) rfl wq3.heap.size recs.length _ recs xs (fun _ => False) (.slice va xs.length vc) rfl rfl O6.out (V5.out.below B6.out) (by omega) (by have := B6.out.size; rw [HSZ.out] at this; exact this) ?_)
      intro v2 w7 o7 g7 _
      have B7 := Lib.hid (B6.out.grown g7 B6.out.size (fun x hx => by rw [HSZ.out]; exact (O6.out.lt x hx).1))
      obtain ⟨g, cap, rfl, _, hgl⟩ := o7.form (by omega)
      have hgb := (o7.lt g rfl).1
      have y73 := (B7.out.cell (p := ⟨jb, 3, none⟩) hj5).trans c53
      have yf7 := (B7.out.frozen (p := ⟨jb, 3, none⟩) hj5).trans f53
      have hj7 := Nat.lt_of_lt_of_le hj5 B7.out.size
      have HM7 := Lib.hid ((B7.out.block jb hj5).trans HM5.out)
      have O7 := Lib.hid o7
      clear o7 g7 c42 c43 f42 hj4 c53 f53
      go_wp2_with fail
      go_ret
      have o8 : Out (· = jb) w7 (w7.setCell ⟨jb, 3, none⟩ (.slice (some ⟨g, 0, none⟩) (recs.length + xs.length) cap)) := Out.set w7 (a := ⟨jb, 3, none⟩) _ rfl
      have hnj : ∀ k, F4 k → ¬ k = jb := fun k hk e => HF5.out k hk (by rw [e]; exact HJ4.out.gj)
      have hR : D.runs (appSegs c ps) = (((((D.writes (rowAt (2 + c) (ps.map fun _ => zeroT))).1.writes (rowAt (2 + c) (sects (2 + c) ps))).1.writes ([(1, headP 1 (c + ps.length))])).1.writes ([(0, headP 0 (c + ps.length))])).1, 0) := S4.out.todo
      have oA : Out (fun k => F4 k ∨ G k) wq3 (w7.setCell ⟨jb, 3, none⟩ (.slice (some ⟨g, 0, none⟩) (recs.length + xs.length) cap)) :=
        ((HO5.out.mono (G := fun k => F4 k ∨ G k) (fun k _ e => Or.inr (by rw [e]; exact HJ4.out.gj))).trans (Out.of_below (F := fun k => F4 k ∨ G k) B7.out) (fun _ e => Or.inl e)).trans (o8.mono (G := fun k => F4 k ∨ G k) (fun k _ e => Or.inr (by rw [e]; exact HJ4.out.gj))) (fun _ e => Or.inl e)
      have hsz8 := oA.size
      refine ⟨F4, fun k => G k ∨ k = g, ?_, (wide (G := G) S4.out.stp).trans ⟨oA, fun k hk => ?_⟩, fun k hk e => ?_, Or.inl ⟨by rw [hR], rfl, ⟨_, ?_, o8.own (by rw [List.length_append]; exact own_low O7.out (Nat.zero_le _)) (row_tag O7.out HM7.out (by decide)), fun k hk => ?_⟩, Or.inl HJ4.out.gj, fun k hk => ?_, by omega, by rw [List.length_append]; exact hrl⟩⟩
      · rw [hR]
        exact ((S4.out.dat.out HO5.out hnj).below B7.out).out o8 hnj
      · rcases hk with hk | hk | rfl
        · exact Or.inl (Or.inl hk)
        · exact Or.inl (Or.inr hk)
        · exact Or.inr hgb
      · rcases e with e | rfl
        · exact HF5.out k hk e
        · have := S4.out.dat.lt _ hk
          omega
      · rw [Int.natCast_add]
        exact (rset HM7.out _).2.1
      · simp [Value.ownBlock] at hk
        exact Or.inr hk.symm
      · rcases hk with hk | rfl
        · exact Nat.lt_of_lt_of_le (HJ4.out.lt k hk) hsz8
        · exact Nat.lt_of_lt_of_le hgl o8.size
end Go.Proofs.YtihoomlaggihlaaGreatDoor
