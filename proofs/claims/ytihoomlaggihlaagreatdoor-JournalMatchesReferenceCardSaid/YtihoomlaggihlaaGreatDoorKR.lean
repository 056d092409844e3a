/- Append, where it writes. Under the condition that the tables lie in memory as the program lays them. -/
import Derived.Test.YtihoomlaggihlaaGreatDoorKU
import Derived.Deep.CutRange
import Derived.Deep.RegionLaw
import Derived.Deep.AppendLies
namespace Go.Proofs.YtihoomlaggihlaaGreatDoor
open Go.RowKit

/-- the row of Append's closures -/
def clo (bj b6 b7 b8 : Nat) : Obj := .cells #[.func (.func 49) #[] #[.pointer (some ⟨bj, 0, none⟩), .pointer (some ⟨b6, 0, none⟩), .pointer (some ⟨b8, 0, none⟩)], .func (.func 50) #[] #[.pointer (some ⟨bj, 0, none⟩), .pointer (some ⟨b6, 0, none⟩), .pointer (some ⟨b8 + 1, 0, none⟩)], .func (.func 51) #[] #[.pointer (some ⟨bj, 0, none⟩), .pointer (some ⟨b7, 0, none⟩)], .func (.func 52) #[] #[.pointer (some ⟨bj, 0, none⟩), .pointer (some ⟨b7, 0, none⟩)]] 75
/-- what region 13 leaves -/
structure NN (wo : World) (b6 b7 : Nat) (x6 x7 : Int) (w : World) : Prop where
  bel : Below wo.heap.size wo w
  h6 : w.heap[b6]? = some (.cells #[.int .i64 x6] 3 (0, 0))
  h7 : w.heap[b7]? = some (.cells #[.int .i64 x7] 3 (0, 0))
  g6 : wo.heap.size ≤ b6
  g7 : wo.heap.size ≤ b7
theorem two_heap (w : World) (A B : Obj) : ((w.alloc A).alloc B).drew.heap[w.heap.size]? = some A ∧ ((w.alloc A).alloc B).drew.heap[w.heap.size + 1]? = some B := by
  refine ⟨?_, ?_⟩
  · rw [heap_drew, Below.heap_alloc _ _ _ (by simp)]
    exact heap_alloc_new _ _
  · rw [heap_drew]
    have := heap_alloc_new (w.alloc A) B
    rwa [show (w.alloc A).heap.size = w.heap.size + 1 by simp] at this
theorem NN.one (w : World) (x6 x7 : Int) : NN w w.heap.size (w.heap.size + 1) x6 x7 ((w.alloc (.cells #[.int .i64 x6] 3)).alloc (.cells #[.int .i64 x7] 3)).drew :=
  ⟨(((Below.refl _ _).alloc (Nat.le_refl _) _).alloc (by simp) _).drew, (two_heap _ _ _).1, (two_heap _ _ _).2, Nat.le_refl _, Nat.le_succ _⟩
theorem NN.two (w : World) (x6 x7 : Int) : NN w (w.heap.size + 1) w.heap.size x6 x7 ((w.alloc (.cells #[.int .i64 x7] 3)).alloc (.cells #[.int .i64 x6] 3)).drew :=
  ⟨(((Below.refl _ _).alloc (Nat.le_refl _) _).alloc (by simp) _).drew, (two_heap _ _ _).2, (two_heap _ _ _).1, Nat.le_succ _, Nat.le_refl _⟩
theorem news_nine (w : World) (x : Value) (j : Nat) (u : Value) (h : [x][j]? = some u) : (w.alloc (.cells #[x] 9)).cell? ((⟨w.heap.size, 0, none⟩ : Addr).add j) = some u := by
  cases j with
  | zero =>
    simp at h
    subst h
    simp [Addr.add]
  | succ j => simp at h
theorem below_grown {a w w' : World} {row : Option Nat} (_ : w.grownBy w' row) (h : Below a.heap.size a w) : Below a.heap.size a w := h
theorem pre_of {w w5 wz wr : World} {F G : Nat → Prop} {jb d n c b6 b7 : Nat} {D : PD} {recs ps : List (List UInt8)} {rv v8 v9 : Value} (hD : DAt w F d n D) (hJ : JAt w G jb d n c recs false) (h1 : w.heap[jb]? = some (.cells #[.pointer (some ⟨d, 0, none⟩), .int .i64 n, .int .i64 c, rv, .bool false] 53 (0, 0))) (hFG : ∀ k, F k → ¬ G k) (hL : Laid w) (hF6 : ∀ x, F x → 6 ≤ x)
    (hb5 : Below (A2 w jb).heap.size (A2 w jb) w5) (hN : NN w5 b6 b7 ((2 : Int) + (c : Int)) ((c : Int) + (ps.length : Int)) wz) (M : RW wz c ps ps.length ps.length v8 v9 wr) (o : Obj) (hroom : 2 + c + ps.length ≤ n) (hn3 : 3 ≤ n) (h46 : ∀ t ∈ ps, t.length ≤ 46) :
    PRE (wr.alloc o) F jb d n c b6 b7 w.heap.size wz.heap.size rv v8 v9 ps := by
  have B0 := A2_below w jb
  have B4 : Below wr.heap.size wr (wr.alloc o) := (Below.refl _ _).alloc (Nat.le_refl _) _
  have B3 : Below wz.heap.size wz (wr.alloc o) := M.bel.trans (B4.mono M.bel.size)
  have B2 : Below w5.heap.size w5 (wr.alloc o) := hN.bel.trans (B3.mono hN.bel.size)
  have B1 : Below (A2 w jb).heap.size (A2 w jb) (wr.alloc o) := hb5.trans (B2.mono hb5.size)
  have B : Below w.heap.size w (wr.alloc o) := B0.trans (B1.mono B0.size)
  have M2 := M.keep B4
  have s2 := A2_size w jb
  have s5 := hb5.size
  have sz := hN.bel.size
  refine ⟨(B1.block _ (by omega)).trans (A2_j w jb), (B1.block _ (by omega)).trans (A2_e w jb), (B.block _ (heap_lt h1)).trans h1, (B3.block _ (heap_lt hN.h6)).trans hN.h6, (B3.block _ (heap_lt hN.h7)).trans hN.h7, M2.h8, M2.h9, ?_, ?_, hD.lt, fun e => hFG _ e hJ.gj, ?_, ?_, ?_, hL.keep B, hF6, hL.size, hroom, hD.n4, hn3, h46⟩
  · have := M2.o8
    rwa [show List.replicate ps.length zeroT = ps.map (fun _ => zeroT) by simp [List.map_const']] at this
  · have := M2.o9
    rwa [List.take_length] at this
  · have := hN.g6; omega
  · have := hN.g7; omega
  · omega
set_option maxHeartbeats 8000000 in
set_option maxRecDepth 100000 in
theorem append_main (w : World) (F G : Nat → Prop) (jb d n c : Nat) (D : PD) (recs xs : List (List UInt8)) (v : Value) (hD : DAt w F d n D) (h : JAt w G jb d n c recs false) (hFG : ∀ k, F k → ¬ G k) (hL : Laid w) (hv : SR w (fun k => F k ∨ G k) v xs) (hm : xs.length ≤ 100000) (hx : xs ≠ []) (hb : longB xs = false) (ht : (textP xs).length ≤ 10000000) (hr : (pieces (textP xs)).length ≤ n - 2 - c) (hp : D.pend.length ≤ 1000) (hF6 : ∀ x, F x → 6 ≤ x) (hn3 : 3 ≤ n) (hGl : ∀ k, G k → k < w.heap.size) (hrl : recs.length + xs.length ≤ 100000) :
    Calls Tryz.prog 13 #[.pointer (some ⟨jb, 0, none⟩), v] w fun e w' => AppPost w F G jb d n c D recs xs (pieces (textP xs)) e w' := by
  have hn := hD.n4
  have hcn := h.le
  obtain ⟨rv, h1, hrv, hrG⟩ := h.mem
  have HRV := Lib.hid (And.intro hrv hrG)
  clear hrv hrG
  have hjl := heap_lt h1
  have hB := A2_below w jb
  have c4 : (A2 w jb).cell? ⟨jb, 4, none⟩ = some (.bool false) := (hB.cell (p := ⟨jb, 4, none⟩) hjl).trans (cell_at h1 rfl)
  have HVold := Lib.hid hv.old
  have hv := hv.weak (G := fun _ => False) (fun _ _ => False.elim)
  have hs := hv.out (Out.of_below hB)
  have hl : ∀ t ∈ xs, t.length ≤ 10000000 := fun t ht => Nat.le_trans (longB_ok hb t ht) (by decide)
  have HL := Lib.hid (long_any (A2 w jb) _ v xs hs (by omega) hl)
  rw [hb] at HL
  have HT := Lib.hid (text_any (A2 w jb) v xs hs ht (hL.keep hB))
  have HJ := Lib.hid h
  have HJ1 := Lib.hid h1
  have AJ := A2_j w jb
  have AE := A2_e w jb
  have AS := A2_size w jb
  have HB := Lib.hid hB
  have HAJ := Lib.hid (And.intro AJ (And.intro AE AS))
  have HD := Lib.hid hD
  have HLaid := Lib.hid hL
  have HFG := Lib.hid hFG
  have HV := HVold
  clear HVold
  have HX := Lib.hid (And.intro hb (And.intro hm hx))
  clear AJ AE AS
  unfold A2 at c4 HL HT
  have hr1 : ¬ ((n - 2 - c : Nat) : Int) < ((pieces (textP xs)).length : Int) := by omega
  have hx1 : ¬ ((xs.length : Nat) : Int) = 0 := by have := List.length_pos_iff.2 hx; omega
  clear h h1 hl hb hL hs hB hD hFG hm hx
  have hmf : ∀ (fn : Fn) (first cap : Array Value) (w : World), (Instr.makeFunc fn first cap).run Tryz.prog w = .ok (.func fn first cap) w := fun _ _ _ _ => rfl
  obtain ⟨a, cc, rfl, _⟩ := hv
  go_enter_defers Tryz.func13, Tryz.ntmps13
  go_wp2_with fail
  refine HL.out.mono ?_
  rintro e w2 ⟨rfl, rfl⟩
  clear HL
  go_wp2_with fail
  refine HT.out.mono ?_
  rintro e w3 ⟨rfl, hb3⟩
  change Below (A2 w jb).heap.size (A2 w jb) w3 at hb3
  clear HT c4
  have HB3 := Lib.hid hb3
  have HP := Lib.hid (split_any w3 (textP xs) ht)
  clear hb3
  go_wp2_with fail
  refine HP.out.mono ?_
  rintro e w4 ⟨pv, rfl, ho, hb4⟩
  have hps := SR.own (F := fun _ => False) ho (fun _ _ => id)
  have HS4 := Lib.hid hps
  obtain ⟨pa, pc, rfl, _⟩ := hps
  have HB4 := Lib.hid (HB3.out.trans (hb4.mono HB3.out.size))
  clear ho hb4 HP HB3
  have cj : w4.cell? ⟨w.heap.size, 0, none⟩ = some (.pointer (some ⟨jb, 0, none⟩)) := (HB4.out.cell (p := ⟨w.heap.size, 0, none⟩) (by have := HAJ.out.2.2; simp; omega)).trans (cell_at HAJ.out.1 rfl)
  have HR := Lib.hid (room_any w4 G jb d n c recs false ((HJ.out.below HB.out).below HB4.out) hn)
  go_wp2_with fail
  refine HR.out.mono ?_
  rintro e w5 ⟨rfl, hb5⟩
  have HS5 := Lib.hid (HS4.out.out (Out.of_below hb5))
  have HB5 := Lib.hid (HB4.out.trans (hb5.mono HB4.out.size))
  clear hb5 HR cj HS4 HB4
  generalize hPS : pieces (textP xs) = ps at *
  have hpl : ps.length ≤ 4000 := by omega
  have hj5 : w5.cell? ⟨w.heap.size, 0, none⟩ = some (.pointer (some ⟨jb, 0, none⟩)) := (HB5.out.cell (p := ⟨w.heap.size, 0, none⟩) (by have := HAJ.out.2.2; simp; omega)).trans (cell_at HAJ.out.1 rfl)
  have hJ5 := Lib.hid ((HJ.out.below HB.out).below HB5.out)
  have hc5 : w5.cell? ⟨jb, 2, none⟩ = some (.int .i64 c) := by
    obtain ⟨_, h1, _⟩ := hJ5.out.mem
    exact cell_at h1 rfl
  have hl5 := cell_lt hj5
  have hl52 := cell_lt hc5
  have hw1 : IntKind.i64.wrap ((2 : Int) + (c : Int)) = ((2 + c : Nat) : Int) := by rw [IntWalk.i64_in _ (by omega)]; omega
  have hw2 : IntKind.i64.wrap ((c : Int) + (ps.length : Int)) = ((c + ps.length : Nat) : Int) := by rw [IntWalk.i64_in _ (by omega)]; omega
  go_upto_region 13 with fail
  go_cut [6, 7] from 37 to 48 (fun s6 s7 wx => ∃ b6 b7, s6 = .pointer (some ⟨b6, 0, none⟩) ∧ s7 = .pointer (some ⟨b7, 0, none⟩) ∧ NN w5 b6 b7 ((2 : Int) + (c : Int)) ((c : Int) + (ps.length : Int)) wx)
  case first =>
    have n1 := World.new_ne w5 ⟨w.heap.size, 0, none⟩ hj5
    have n2 := World.new_ne w5 ⟨jb, 2, none⟩ hc5
    go_region_held3 (fun w' => w'.cell? ⟨w.heap.size, 0, none⟩ = some (.pointer (some ⟨jb, 0, none⟩)) ∧ w'.cell? ⟨jb, 2, none⟩ = some (.int .i64 c)) (first | exact ⟨hj5, hc5⟩ | (go_keep; done)) (fail)
    all_goals (
      go_wp2_with fail
      go_meet
      case rel => first | exact ⟨_, _, rfl, rfl, NN.one _ _ _⟩ | exact ⟨_, _, rfl, rfl, NN.two _ _ _⟩)
  case rest =>
    obtain ⟨b6, b7, rfl, rfl, hN⟩ := hcut
    obtain ⟨wz, rfl⟩ : ∃ wz : World, wz = wc := ⟨_, rfl⟩
    have HN := Lib.hid hN
    clear hN
    go_wp2_with fail
    have HS6 := Lib.hid (HS5.out.out (Out.of_below (F := fun _ => False) HN.out.bel))
    have HL6 := Lib.hid ((((HLaid.out.keep HB.out).keep HB5.out).keep HN.out.bel))
    have H0 := Lib.hid (RW.start wz c ps)
    obtain ⟨i9, hi9, ha9, hb9, hc9⟩ := info_parts info9
    have h46 := Lib.hid (show ∀ t ∈ ps, t.length ≤ 46 by rw [← hPS]; exact fun t ht => (pieces_len _ _ (Nat.le_refl _) t ht).2)
    clear hj5 hc5 hw1 hw2 hr1
    go_loopw [10, 11, 51] (fun _ _ i wr => ∃ (k : Nat) (v8 v9 : Value), k ≤ ps.length ∧ i = .int .i64 k ∧ Hid (RW wz c ps k k v8 v9 wr)) (fun _ _ i _ => ps.length - (intOf i).toNat)
    case atStart => exact ⟨0, _, _, by omega, rfl, H0⟩
    case round =>
      clear H0
      obtain ⟨k, v8, v9, hk, rfl, M⟩ := hrel
      have hk0 : (0 : Int) ≤ (k : Int) := Int.natCast_nonneg _
      by_cases hlt : k < ps.length
      · obtain ⟨a', c', e1, _, hcs⟩ := (HS6.out.out (Out.of_below (F := fun _ => False) M.out.bel))
        cases e1
        obtain ⟨b, o, rfl, _, hcell⟩ := hcs k hlt
        have hk1 : (k : Int) < (ps.length : Int) := by omega
        clear hcs
        have hR8 := M.out.h8
        have c8 : wr.cell? ⟨wz.heap.size, 0, none⟩ = some v8 := cell_at hR8 rfl
        have f8 := frozen_at hR8 0
        have hl8 := heap_lt hR8
        clear hR8
        go_upto_region 18 with fail
        go_cut [51] from 51 to 68 (fun s51 wx => s51 = .int .i64 k ∧ ∃ v8', Hid (RW wz c ps (k + 1) k v8' v9 wx))
        case first =>
          go_region_law
            (first
              | (go_simp; go_at_call 40; refine (zero_any _).mono ?_; rintro e w7 ⟨rfl, hb7⟩; (have RA := Lib.hid (M.out.keep ((Below.refl _ _).drew.trans hb7))); (have y8 : w7.cell? ⟨wz.heap.size, 0, none⟩ = some v8 := cell_at RA.out.h8 rfl); (have m8 : wz.heap.size < w7.heap.size := heap_lt RA.out.h8); clear hb7; dsimp only)
              | (refine step_append_lies _ (by rfl) (.tmp 56) (.tmp 58) 26 (by rfl) wz.heap.size 9 i9 _ 1 16 Tryz.underlying26 hi9 ha9 hb9 hc9 rfl (by decide) v8 k (strs (List.replicate k zeroT)) (by rfl) (by exact own_below RA.out.o8 (by (repeat (first | exact Below.refl _ _ | refine Below.drew ?_ | (refine Below.alloc ?_ (by simp) _))))) ⟨w7.heap.size, 0, none⟩ 1 1 [.string ⟨zeroT.toArray⟩] (by rfl) (by rfl) (by intro j u hu; exact news_nine w7 _ j u hu) (by intro u hu; simp at hu; subst hu; rfl) (by decide) (by unfold maxLen; omega) (by omega) (by simp; omega) _ rfl ?_; intro g cap w5 ho5 hg5 hl5 hm5; (have RB := Lib.hid (RA.out.keep (below_grown hg5 (by (repeat (first | exact Below.refl _ _ | refine Below.drew ?_ | (refine Below.alloc ?_ (by simp) _))))))); (have hw8 := grown_heap hg5 RB.out.h8 (own_tag RB.out.o8 RB.out.h8 (by decide))); (have y5 : w5.cell? ⟨wz.heap.size, 0, none⟩ = some v8 := cell_at hw8 rfl); (have f5 := frozen_at hw8 0); (have RC := Lib.hid (RB.out.step8 ho5 hg5 hl5)); clear hw8 ho5 hg5 hl5 hm5))
          all_goals (
            go_wp2_with fail
            go_meet
            case rel => exact ⟨rfl, _, RC⟩)
        case rest =>
          obtain ⟨rfl, v8', hM8⟩ := hcut
          obtain ⟨wy, rfl⟩ : ∃ wy : World, wy = wc := ⟨_, rfl⟩
          have HLy := Lib.hid (HL6.out.keep hM8.out.bel)
          have HSec : Hid (∀ W : World, Laid W → Calls Tryz.prog 35 #[.int .i64 ((2 : Int) + (c : Int) + (k : Int)), .string ⟨ps[k].toArray⟩] W fun e w' => e = .returned (.string ⟨(sectP (2 + c + k) ps[k]).toArray⟩) ∧ Below W.heap.size W w') := Lib.hid fun W hW => by
            have := sector_any W (2 + c + k) ps[k] (by omega) (h46.out _ (List.getElem_mem hlt)) hW
            rwa [show ((2 + c + k : Nat) : Int) = (2 : Int) + (c : Int) + (k : Int) by omega] at this
          have c9 : wy.cell? ⟨wz.heap.size + 1, 0, none⟩ = some v9 := cell_at hM8.out.h9 rfl
          have c6 : wy.cell? ⟨b6, 0, none⟩ = some (.int .i64 ((2 : Int) + (c : Int))) := cell_at ((hM8.out.bel.block _ (heap_lt HN.out.h6)).trans HN.out.h6) rfl
          have l6 := cell_lt c6
          have l9 := cell_lt c9
          have hw3 : IntKind.i64.wrap ((2 : Int) + (c : Int) + (k : Int)) = (2 : Int) + (c : Int) + (k : Int) := IntWalk.i64_in _ (by omega)
          clear c8 f8 hl8
          go_upto_region 19 with fail
          refine wp_region_noPanic ?_
          go_region_law
            (first
              | (go_simp; go_at_call 35; refine (HSec.out _ (HLy.out.keep (by (repeat (first | exact Below.refl _ _ | refine Below.drew ?_ | (refine Below.alloc ?_ (by simp) _)))))).mono ?_; rintro e w7 ⟨rfl, hb7⟩; (have RA := Lib.hid (hM8.out.keep (Below.trans (by (repeat (first | exact Below.refl _ _ | refine Below.drew ?_ | (refine Below.alloc ?_ (by simp) _)))) hb7))); (have y9 : w7.cell? ⟨wz.heap.size + 1, 0, none⟩ = some v9 := cell_at RA.out.h9 rfl); (have m9 : wz.heap.size + 1 < w7.heap.size := heap_lt RA.out.h9); clear hb7; dsimp only)
              | (refine step_append_lies _ (by rfl) (.tmp 60) (.tmp 66) 26 (by rfl) wz.heap.size 9 i9 _ 1 16 Tryz.underlying26 hi9 ha9 hb9 hc9 rfl (by decide) v9 k (strs (sects (2 + c) (ps.take k))) (by rfl) (by exact own_below RA.out.o9 (by (repeat (first | exact Below.refl _ _ | refine Below.drew ?_ | (refine Below.alloc ?_ (by simp) _))))) ⟨w7.heap.size, 0, none⟩ 1 1 [.string ⟨(sectP (2 + c + k) ps[k]).toArray⟩] (by rfl) (by rfl) (by intro j u hu; exact news_nine w7 _ j u hu) (by intro u hu; simp at hu; subst hu; rfl) (by decide) (by unfold maxLen; omega) (by omega) (by simp; omega) _ rfl ?_; intro g cap w5 ho5 hg5 hl5 hm5; (have RB := Lib.hid (RA.out.keep (below_grown hg5 (by (repeat (first | exact Below.refl _ _ | refine Below.drew ?_ | (refine Below.alloc ?_ (by simp) _))))))); (have hw9 := grown_heap hg5 RB.out.h9 (own_tag RB.out.o9 RB.out.h9 (by decide))); (have y5 : w5.cell? ⟨wz.heap.size + 1, 0, none⟩ = some v9 := cell_at hw9 rfl); (have f5 := frozen_at hw9 0); (have RC := Lib.hid (RB.out.step9 hlt ho5 hg5 hl5)); clear hw9 ho5 hg5 hl5 hm5))
          all_goals (
            refine NoPanic.normal ?_
            go_wp2_with fail
            go_roundw
            case rel => exact ⟨k + 1, _, _, by omega, by go_num, RC⟩
            case measure => simp [intOf]; omega)
      · obtain rfl : k = ps.length := by omega
        have P := Lib.hid (pre_of HD.out HJ.out HJ1.out HFG.out HLaid.out hF6 HB5.out HN.out M.out (clo w.heap.size b6 b7 wz.heap.size) (by omega) hn3 h46.out)
        generalize hq : wr.heap.size = q at *
        go_wp2_with fail
        have HQ : (wr.alloc (clo w.heap.size b6 b7 wz.heap.size)).heap[q]? = some (clo w.heap.size b6 b7 wz.heap.size) := by rw [← hq]; exact heap_alloc_new _ _
        have HW : Below w.heap.size w (wr.alloc (clo w.heap.size b6 b7 wz.heap.size)) := by
          have B4 : Below wr.heap.size wr (wr.alloc (clo w.heap.size b6 b7 wz.heap.size)) := (Below.refl _ _).alloc (Nat.le_refl _) _
          have B3 := M.out.bel.trans (B4.mono M.out.bel.size)
          have B2 := HN.out.bel.trans (B3.mono HN.out.bel.size)
          have B1 := HB5.out.trans (B2.mono HB5.out.size)
          exact HB.out.trans (B1.mono HB.out.size)
        obtain ⟨W0, hW0⟩ : ∃ W0 : World, W0 = wr.alloc (clo w.heap.size b6 b7 wz.heap.size) := ⟨_, rfl⟩
        have hqf : ∀ x, F x → x ≠ q := fun x hx e => by
          have := HD.out.lt x hx
          have s1 := HB.out.size
          have s2 := HB5.out.size
          have s3 := HN.out.bel.size
          have s4 := M.out.bel.size
          omega
        rw [← hW0] at P HQ HW
        have M0 := Lib.hid (SW.start (appSegs c ps) (HD.out.below HW) hp P.out.he (fun e => by have := P.out.nF _ e; omega))
        have J0 := Lib.hid (HJ.out.below HW)
        have HQ0 := Lib.hid (And.intro HQ hqf)
        have HWW := Lib.hid HW
        have HRV0 := Lib.hid (And.intro (own_below HRV.out.1 HW) HRV.out.2)
        have HVV := Lib.hid (HV.out.out (Out.of_below HW))
        unfold clo at hW0
        rw [← hW0]
        clear hW0 M hq HQ hqf HW HN HS6 HL6 hJ5 HB5 HS5 HRV HJ1
        clear wr
        go_loopw [13, 75] (fun _ i wr => ∃ (k : Nat) (E : PD) (F' : Nat → Prop), k ≤ 4 ∧ i = .int .i64 k ∧ Hid (SW W0 F (w.heap.size + 1) d n D (appSegs c ps) k E F' wr)) (fun _ i _ => 4 - (intOf i).toNat)
        case atStart => exact ⟨0, D, F, by omega, rfl, M0⟩
        case round =>
          clear M0
          obtain ⟨k, E, F', hk, rfl, M⟩ := hrel
          have clo' : wr.heap[q]? = some (clo w.heap.size b6 b7 wz.heap.size) := (M.out.get HQ0.out.1 (fun e => HQ0.out.2 _ e rfl) (fun e => by have := HQ0.out.1; rw [e, P.out.he] at this; cases this)).1
          have q0 : wr.cell? ⟨q, 0, none⟩ = some (.func (.func 49) #[] #[.pointer (some ⟨w.heap.size, 0, none⟩), .pointer (some ⟨b6, 0, none⟩), .pointer (some ⟨wz.heap.size, 0, none⟩)]) := cell_at clo' rfl
          have q1 : wr.cell? ⟨q, 1, none⟩ = some (.func (.func 50) #[] #[.pointer (some ⟨w.heap.size, 0, none⟩), .pointer (some ⟨b6, 0, none⟩), .pointer (some ⟨wz.heap.size + 1, 0, none⟩)]) := cell_at clo' rfl
          have q2 : wr.cell? ⟨q, 2, none⟩ = some (.func (.func 51) #[] #[.pointer (some ⟨w.heap.size, 0, none⟩), .pointer (some ⟨b7, 0, none⟩)]) := cell_at clo' rfl
          have q3 : wr.cell? ⟨q, 3, none⟩ = some (.func (.func 52) #[] #[.pointer (some ⟨w.heap.size, 0, none⟩), .pointer (some ⟨b7, 0, none⟩)]) := cell_at clo' rfl
          clear clo'
          have h4 : k = 0 ∨ k = 1 ∨ k = 2 ∨ k = 3 ∨ k = 4 := by omega
          rcases h4 with rfl | rfl | rfl | rfl | rfl
          · have HC := Lib.hid (call43 P.out M.out)
            rcases writes_cases (rowAt (2 + c) (ps.map fun _ => zeroT)) E with h0 | h0
            · rw [h0] at HC
              have HN0 := Lib.hid (fun F2 w2 => M.out.step (F2 := F2) (w2 := w2) (show 0 < (appSegs c ps).length by simp [appSegs]) h0)
              have HE0 := Lib.hid (fun F2 w2 (g : Stp F' wr F2 w2) => g.out.heap M.out.he M.out.nF)
              clear h0
              go_wp2_with fail
              refine HC.out.mono ?_
              rintro e w2 ⟨rfl, F2, g1, g2⟩
              have M2 := Lib.hid (HN0.out F2 w2 g1 g2)
              have be2 := HE0.out F2 w2 g2
              have ce2 : w2.cell? ⟨w.heap.size + 1, 0, none⟩ = some (.int .i64 0) := cell_at be2 rfl
              have fe2 := frozen_at be2 0
              clear g1 g2 HC HN0 HE0 be2
              go_wp2_with fail
              go_roundw
              case rel => exact ⟨1, _, _, by omega, by go_num, M2⟩
              case measure => simp [intOf]
            · rw [h0] at HC
              have HN0 := Lib.hid (fun F2 w2 => app_fail (F2 := F2) (w2 := w2) (xs := xs) P.out J0.out hGl HFG.out HWW.out rfl M.out (show 0 < (appSegs c ps).length by simp [appSegs]) h0)
              have HE0 := Lib.hid (fun F2 w2 (g : Stp F' wr F2 w2) => g.out.heap M.out.he M.out.nF)
              clear h0
              go_wp2_with fail
              refine HC.out.mono ?_
              rintro e w2 ⟨rfl, F2, g1, g2⟩
              have be2 := HE0.out F2 w2 g2
              have A2' := Lib.hid (HN0.out F2 w2 g1 g2)
              have ce2 : w2.cell? ⟨w.heap.size + 1, 0, none⟩ = some (.int .i64 0) := cell_at be2 rfl
              have fe2 := frozen_at be2 0
              clear g1 g2 HC HN0 HE0 be2
              go_wp2_with fail
              try rw [hPS]
              exact leave18 rfl rfl A2'.out
          · have HC := Lib.hid (call44 P.out M.out)
            rcases writes_cases (rowAt (2 + c) (sects (2 + c) ps)) E with h0 | h0
            · rw [h0] at HC
              have HN0 := Lib.hid (fun F2 w2 => M.out.step (F2 := F2) (w2 := w2) (show 1 < (appSegs c ps).length by simp [appSegs]) h0)
              have HE0 := Lib.hid (fun F2 w2 (g : Stp F' wr F2 w2) => g.out.heap M.out.he M.out.nF)
              clear h0
              go_wp2_with fail
              refine HC.out.mono ?_
              rintro e w2 ⟨rfl, F2, g1, g2⟩
              have M2 := Lib.hid (HN0.out F2 w2 g1 g2)
              have be2 := HE0.out F2 w2 g2
              have ce2 : w2.cell? ⟨w.heap.size + 1, 0, none⟩ = some (.int .i64 0) := cell_at be2 rfl
              have fe2 := frozen_at be2 0
              clear g1 g2 HC HN0 HE0 be2
              go_wp2_with fail
              go_roundw
              case rel => exact ⟨2, _, _, by omega, by go_num, M2⟩
              case measure => simp [intOf]
            · rw [h0] at HC
              have HN0 := Lib.hid (fun F2 w2 => app_fail (F2 := F2) (w2 := w2) (xs := xs) P.out J0.out hGl HFG.out HWW.out rfl M.out (show 1 < (appSegs c ps).length by simp [appSegs]) h0)
              have HE0 := Lib.hid (fun F2 w2 (g : Stp F' wr F2 w2) => g.out.heap M.out.he M.out.nF)
              clear h0
              go_wp2_with fail
              refine HC.out.mono ?_
              rintro e w2 ⟨rfl, F2, g1, g2⟩
              have be2 := HE0.out F2 w2 g2
              have A2' := Lib.hid (HN0.out F2 w2 g1 g2)
              have ce2 : w2.cell? ⟨w.heap.size + 1, 0, none⟩ = some (.int .i64 0) := cell_at be2 rfl
              have fe2 := frozen_at be2 0
              clear g1 g2 HC HN0 HE0 be2
              go_wp2_with fail
              try rw [hPS]
              exact leave18 rfl rfl A2'.out
          · have HC := Lib.hid (call45 P.out M.out)
            rcases writes_cases ([(1, headP 1 (c + ps.length))]) E with h0 | h0
            · rw [h0] at HC
              have HN0 := Lib.hid (fun F2 w2 => M.out.step (F2 := F2) (w2 := w2) (show 2 < (appSegs c ps).length by simp [appSegs]) h0)
              have HE0 := Lib.hid (fun F2 w2 (g : Stp F' wr F2 w2) => g.out.heap M.out.he M.out.nF)
              clear h0
              go_wp2_with fail
              refine HC.out.mono ?_
              rintro e w2 ⟨rfl, F2, g1, g2⟩
              have M2 := Lib.hid (HN0.out F2 w2 g1 g2)
              have be2 := HE0.out F2 w2 g2
              have ce2 : w2.cell? ⟨w.heap.size + 1, 0, none⟩ = some (.int .i64 0) := cell_at be2 rfl
              have fe2 := frozen_at be2 0
              clear g1 g2 HC HN0 HE0 be2
              go_wp2_with fail
              go_roundw
              case rel => exact ⟨3, _, _, by omega, by go_num, M2⟩
              case measure => simp [intOf]
            · rw [h0] at HC
              have HN0 := Lib.hid (fun F2 w2 => app_fail (F2 := F2) (w2 := w2) (xs := xs) P.out J0.out hGl HFG.out HWW.out rfl M.out (show 2 < (appSegs c ps).length by simp [appSegs]) h0)
              have HE0 := Lib.hid (fun F2 w2 (g : Stp F' wr F2 w2) => g.out.heap M.out.he M.out.nF)
              clear h0
              go_wp2_with fail
              refine HC.out.mono ?_
              rintro e w2 ⟨rfl, F2, g1, g2⟩
              have be2 := HE0.out F2 w2 g2
              have A2' := Lib.hid (HN0.out F2 w2 g1 g2)
              have ce2 : w2.cell? ⟨w.heap.size + 1, 0, none⟩ = some (.int .i64 0) := cell_at be2 rfl
              have fe2 := frozen_at be2 0
              clear g1 g2 HC HN0 HE0 be2
              go_wp2_with fail
              try rw [hPS]
              exact leave18 rfl rfl A2'.out
          · have HC := Lib.hid (call46 P.out M.out)
            rcases writes_cases ([(0, headP 0 (c + ps.length))]) E with h0 | h0
            · rw [h0] at HC
              have HN0 := Lib.hid (fun F2 w2 => M.out.step (F2 := F2) (w2 := w2) (show 3 < (appSegs c ps).length by simp [appSegs]) h0)
              have HE0 := Lib.hid (fun F2 w2 (g : Stp F' wr F2 w2) => g.out.heap M.out.he M.out.nF)
              clear h0
              go_wp2_with fail
              refine HC.out.mono ?_
              rintro e w2 ⟨rfl, F2, g1, g2⟩
              have M2 := Lib.hid (HN0.out F2 w2 g1 g2)
              have be2 := HE0.out F2 w2 g2
              have ce2 : w2.cell? ⟨w.heap.size + 1, 0, none⟩ = some (.int .i64 0) := cell_at be2 rfl
              have fe2 := frozen_at be2 0
              clear g1 g2 HC HN0 HE0 be2
              go_wp2_with fail
              go_roundw
              case rel => exact ⟨4, _, _, by omega, by go_num, M2⟩
              case measure => simp [intOf]
            · rw [h0] at HC
              have HN0 := Lib.hid (fun F2 w2 => app_fail (F2 := F2) (w2 := w2) (xs := xs) P.out J0.out hGl HFG.out HWW.out rfl M.out (show 3 < (appSegs c ps).length by simp [appSegs]) h0)
              have HE0 := Lib.hid (fun F2 w2 (g : Stp F' wr F2 w2) => g.out.heap M.out.he M.out.nF)
              clear h0
              go_wp2_with fail
              refine HC.out.mono ?_
              rintro e w2 ⟨rfl, F2, g1, g2⟩
              have be2 := HE0.out F2 w2 g2
              have A2' := Lib.hid (HN0.out F2 w2 g1 g2)
              have ce2 : w2.cell? ⟨w.heap.size + 1, 0, none⟩ = some (.int .i64 0) := cell_at be2 rfl
              have fe2 := frozen_at be2 0
              clear g1 g2 HC HN0 HE0 be2
              go_wp2_with fail
              try rw [hPS]
              exact leave18 rfl rfl A2'.out
          · clear q0 q1 q2 q3
            have hnG : ∀ x, G x → ¬ (F x ∨ x = w.heap.size + 1) := fun x hx e => by
              rcases e with e | e
              · exact HFG.out x e hx
              · have := hGl x hx; omega
            have jr := M.out.stp.out.heap P.out.hb (hnG _ J0.out.gj)
            have br := (M.out.get P.out.hj (fun e => by have := P.out.nF _ e; omega) (by omega)).1
            have r7 := (M.out.get P.out.h7 (fun e => by have := P.out.nF _ e; have := P.out.g7; omega) (tag_ne P.out.h7 P.out.he (by decide))).1
            have cj0 : wr.cell? ⟨w.heap.size, 0, none⟩ = some (.pointer (some ⟨jb, 0, none⟩)) := cell_at br rfl
            have c7 : wr.cell? ⟨b7, 0, none⟩ = some (.int .i64 ((c : Int) + (ps.length : Int))) := cell_at r7 rfl
            have cc2 : wr.cell? ⟨jb, 2, none⟩ = some (.int .i64 c) := cell_at jr rfl
            have ff2 := frozen_at jr 2
            have o1 : Out (· = jb) wr (wr.setCell ⟨jb, 2, none⟩ (.int .i64 ((c : Int) + (ps.length : Int)))) := Out.set wr (a := ⟨jb, 2, none⟩) _ rfl
            have j1 := set2 jr (.int .i64 ((c : Int) + (ps.length : Int)))
            have b1 := o1.heap br (tag_ne br jr (by decide))
            have e1 := o1.heap M.out.he (tag_ne M.out.he jr (by decide))
            have rr := M.out.stp.out.own HRV0.out.1 (fun x hx => hnG x (HRV0.out.2 x hx))
            have r1 := o1.own rr (fun x hx e => by subst e; exact own_tag rr jr (by decide) hx)
            have v1 := ((HVV.out.weak (G := fun x => (F x ∨ G x) ∨ x = w.heap.size + 1) (fun x _ e => e.elim Or.inl (fun e => Or.inr (by omega)))).out (M.out.stp.out.mono (fun x _ e => e.elim (fun e => Or.inl (Or.inl e)) Or.inr))).out (o1.mono (fun x _ e => Or.inl (Or.inr (by rw [e]; exact J0.out.gj))))
            obtain ⟨ga, gc, ge, _, gcs⟩ := id v1
            cases ge
            obtain ⟨vb, vo, rfl, _, _⟩ := gcs 0 (List.length_pos_iff.2 HX.out.2.2)
            have V1 := Lib.hid v1
            have R1 := Lib.hid r1
            have J1 := Lib.hid (And.intro j1 (And.intro b1 e1))
            have hxl := HX.out.2.1
            have hxp : 0 < xs.length := List.length_pos_iff.2 HX.out.2.2
            have cw0 : (wr.setCell ⟨jb, 2, none⟩ (.int .i64 ((c : Int) + (ps.length : Int)))).cell? ⟨w.heap.size, 0, none⟩ = some (.pointer (some ⟨jb, 0, none⟩)) := cell_at b1 rfl
            have cw3 : (wr.setCell ⟨jb, 2, none⟩ (.int .i64 ((c : Int) + (ps.length : Int)))).cell? ⟨jb, 3, none⟩ = some rv := cell_at j1 rfl
            have hs1 := o1.size
            have HA := Lib.hid (fun W1 w5 g cap hW1 o5 g5 l5 => app_done (W1 := W1) (w5 := w5) (g := g) (cap := cap) (xs := xs) P.out J0.out hGl HFG.out HWW.out rfl M.out HRV0.out.1 HRV0.out.2 hrl hW1 o5 g5 l5)
            clear gcs v1 r1 rr r7 br jr o1 b1 e1 j1
            go_upto_region 29 with fail
            generalize hw1 : wr.setCell ⟨jb, 2, none⟩ (.int .i64 ((c : Int) + (ps.length : Int))) = w1 at *
            clear hw1 c7 cc2 ff2 cj0
            refine wp_region_noPanic ?_
            go_region_law
              (first
                | (refine step_append_lies _ (by rfl) (.tmp 93) (.tmp 94) 26 (by rfl) 0 9 i9 _ 1 16 Tryz.underlying26 hi9 ha9 hb9 hc9 rfl (by decide) rv recs.length (strs recs) (by rfl) (by exact own_below R1.out (by (repeat (first | exact Below.refl _ _ | refine Below.drew ?_ | (refine Below.alloc ?_ (by simp) _))))) ⟨vb, vo, none⟩ xs.length cc (strs xs) (by rfl) (by simp [strs]) (by intro j u hu; exact (V1.out.below (by (repeat (first | exact Below.refl _ _ | refine Below.drew ?_ | (refine Below.alloc ?_ (by simp) _))))).news j u hu) (strs_one _) hxp (by unfold maxLen; omega) (by omega) (by omega) _ rfl ?_; intro g cap w5 ho5 hg5 hl5 hm5; (have hBW := below_grown (a := w1) hg5 (by (repeat (first | exact Below.refl _ _ | refine Below.drew ?_ | (refine Below.alloc ?_ (by simp) _))))); (have jw := (hBW.block _ (heap_lt J1.out.1)).trans J1.out.1); (have ew := (hBW.block _ (heap_lt J1.out.2.2)).trans J1.out.2.2); (have bw := (hBW.block _ (heap_lt J1.out.2.1)).trans J1.out.2.1); (have rw1 := own_below R1.out hBW); (have j5 := grown_heap hg5 jw (own_tag rw1 jw (by decide))); (have e5 := grown_heap hg5 ew (own_tag rw1 ew (by decide))); (have b5 := grown_heap hg5 bw (own_tag rw1 bw (by decide))); (have cb5 : w5.cell? ⟨w.heap.size, 0, none⟩ = some (.pointer (some ⟨jb, 0, none⟩)) := cell_at b5 rfl); (have y3 : w5.cell? ⟨jb, 3, none⟩ = some rv := cell_at j5 rfl); (have f3 := frozen_at j5 3); (have HF := Lib.hid (HA.out _ w5 g cap (hBW.mono hs1) ho5 hg5 hl5)); (have e6 := (Out.set (F := (· = jb)) w5 (a := ⟨jb, 3, none⟩) (.slice (some ⟨g, 0, none⟩) (recs.length + xs.length) cap) rfl).heap e5 (tag_ne e5 j5 (by decide))); (have ce6 : (w5.setCell ⟨jb, 3, none⟩ (.slice (some ⟨g, 0, none⟩) (recs.length + xs.length) cap)).cell? ⟨w.heap.size + 1, 0, none⟩ = some (.int .i64 0) := cell_at e6 rfl); (have fe6 := frozen_at e6 0); clear hBW jw ew bw rw1 j5 e5 b5 e6 ho5 hg5 hl5 hm5))
            all_goals (
              refine NoPanic.normal ?_
              go_wp2_with fail
              try rw [hPS]
              exact leave18 rfl rfl HF.out)
end Go.Proofs.YtihoomlaggihlaaGreatDoor
