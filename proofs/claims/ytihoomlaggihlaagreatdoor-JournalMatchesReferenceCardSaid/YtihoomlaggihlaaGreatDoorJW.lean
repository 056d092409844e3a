/- The contracts of the disk's New and Rot. Under no condition. -/
import Derived.Test.YtihoomlaggihlaaGreatDoorJT
import Derived.Test.YtihoomlaggihlaaGreatDoorJP
import Derived.OwnWalk
import Derived.IntWalk
import Derived.Laws.BitsAllLaws
import Derived.Laws.OwnMore
namespace Go.Proofs.YtihoomlaggihlaaGreatDoor
open Go.RowKit

theorem info5 : (Tryz.prog.info? 5).map (fun i => (i.zero, i.size, i.bytes)) = some (some (.int .u8 0), 1, 1) := by kernel_rfl
/-- a new disk -/
def newD (n : Nat) : PD := ⟨List.replicate n zeroT, [], false, none⟩
theorem newD_sec (n : Nat) : Sec n (List.replicate n zeroT) := ⟨by simp, fun s hs => by rw [List.eq_of_mem_replicate hs]; exact zeroT_len⟩
theorem newD_flat (n : Nat) : (List.replicate n zeroT).flatten = List.replicate (64 * n) 0 := by
  unfold zeroT
  rw [List.flatten_replicate_replicate, Nat.mul_comm]
set_option maxHeartbeats 4000000 in
set_option maxRecDepth 100000 in
theorem new_no (w : World) (s : Int) (hs : s < 1 ∨ 4000 < s) :
    Calls Tryz.prog 8 #[.int .i64 s] w fun e w' => e = .returned (.pointer none) ∧ w = w' := by
  rcases hs with hs | hs
  · go_enter Tryz.func8, Tryz.ntmps8
    go_wp2_with fail
    go_ret
    exact ⟨rfl, rfl⟩
  · have h1 : decide (s < 1) = false := by simp; omega
    have h2 : ¬ s < 1 := by omega
    go_enter Tryz.func8, Tryz.ntmps8
    go_wp2_with fail
    go_ret
    exact ⟨rfl, rfl⟩
set_option maxHeartbeats 4000000 in
set_option maxRecDepth 100000 in
theorem new_yes (w : World) (n : Nat) (h1 : 1 ≤ n) (h2 : n ≤ 4000) :
    Calls Tryz.prog 8 #[.int .i64 n] w fun e w' => ∃ d F, e = .returned (.pointer (some ⟨d, 0, none⟩)) ∧ DAt w' F d n (newD n) ∧ Below w.heap.size w w' ∧ ∀ k, F k → w.heap.size ≤ k := by
  obtain ⟨i5, hi5, ha5, hb5, hc5⟩ := info_parts info5
  have g1 : (1 : Int) ≤ (n : Int) := by omega
  have g2 : (n : Int) ≤ 4000 := by omega
  have HC := Lib.hid hc5
  clear h1
  have H2 := Lib.hid h2
  go_enter Tryz.func8, Tryz.ntmps8
  go_wp2_with (at_make; refine wpList_make_full _ rfl _ _ 56 rfl 0 5 i5 _ 1 Tryz.underlying56 hi5 ha5 hb5 .i64 .i64 _ _ (64 * n) rfl rfl (by omega) (by omega) (by rw [HC.out]; omega) (by unfold maxLen; omega) (by omega) ?_; intro w1 ho1 hg1)
  have HG := Lib.hid (And.intro ho1 hg1)
  clear ho1 hg1
  go_wp2_with fail
  go_ret
  have e1 : (madeCells (Value.int IntKind.u8 0).cells (64 * n * 1)).toList = bytesV (List.replicate n zeroT).flatten := by
    rw [newD_flat]
    show (madeCells #[Value.int IntKind.u8 0] (64 * n * 1)).toList = _
    rw [toList_madeCells_one, Nat.mul_one]
    simp [bytesV]
  have hb1 : Below w.heap.size w w1 := ⟨HG.out.2.os, HG.out.2.tape, HG.out.2.output, HG.out.2.size, fun k hk => HG.out.2.block k hk (by simp)⟩
  have hs1 : w1.heap[w.heap.size]? = some (.cells (bytesV (List.replicate n zeroT).flatten).toArray 5 (0, 0)) := by
    rcases HG.out.1.2 with ⟨h, _⟩ | ⟨g, cap, cur, hv, _, hg, hc, _, hz, ht⟩
    · cases h
    · cases hv
      rw [hg]
      have : cur.toList = bytesV (List.replicate n zeroT).flatten := by
        rw [← e1, ← ht, List.take_of_length_le (by rw [Array.length_toList, hz]; exact Nat.le_refl _)]
      rw [← this]
  have hd := heap_alloc_new w1 (.cells #[.slice (some ⟨w.heap.size, 0, none⟩) (64 * n) (64 * n), .slice none 0 0, .bool false, .pointer none] 72)
  refine ⟨w1.heap.size, fun k => k = w.heap.size ∨ k = w1.heap.size, rfl, ⟨⟨newD_sec n, by simp [Whole, newD], by simp [newD]⟩, H2.out, fun k hk => ?_, Or.inr rfl, w.heap.size, .slice none 0 0, .pointer none, hd, ?_, World.ownsRow_nil _ _ _ _, rfl, Or.inl rfl, by simp [Value.ownBlock]⟩, hb1.alloc hb1.size _, fun k hk => ?_⟩
  · have := heap_lt hs1
    rcases hk with rfl | rfl <;> simp <;> omega
  · exact ((Gr.one w1 _).below.block _ (heap_lt hs1)).trans hs1
  · have := hb1.size
    rcases hk with rfl | rfl <;> omega
theorem flat_set {n i a : Nat} {ss : List (List UInt8)} (h : Sec n ss) (hi : i < n) (ha : a < 64) (v : UInt8) : (ss.set i ((ss.getD i []).set a v)).flatten = ss.flatten.set (64 * i + a) v := by
  obtain ⟨A, C, e, hA, hF⟩ := h.split hi
  have hx := h.at hi
  generalize ss.getD i [] = x at *
  rw [e, List.set_append_right _ _ (by omega), hA, Nat.sub_self, List.set_cons_zero, List.flatten_append, List.flatten_append, List.flatten_cons, List.flatten_cons, List.set_append_right _ _ (by omega), hF, show 64 * i + a - 64 * i = a by omega, List.set_append_left _ _ (by omega)]
/-- a byte rotten -/
def PD.rot (D : PD) (i a m : Int) : PD :=
  if 0 ≤ i ∧ i < D.ss.length ∧ 0 ≤ a ∧ a < 64 ∧ 0 < m ∧ m < 256 then { D with ss := D.ss.set i.toNat ((D.ss.getD i.toNat []).set a.toNat ((D.ss.getD i.toNat []).getD a.toNat 0 ^^^ UInt8.ofNat m.toNat)) } else D
theorem Vd.rot {n : Nat} {D : PD} (h : Vd n D) (i a m : Int) : Vd n (D.rot i a m) := by
  unfold PD.rot
  split
  · rename_i hc
    have hi : i.toNat < n := by have := h.sec.1; omega
    refine ⟨⟨by simp [h.sec.1], fun s hs => ?_⟩, h.whole, h.al⟩
    rcases List.mem_or_eq_of_mem_set hs with e | e
    · exact h.sec.2 s e
    · rw [e, List.length_set, h.sec.at hi]
  · exact h
set_option maxHeartbeats 4000000 in
set_option maxRecDepth 100000 in
theorem rot_yes (w : World) (F : Nat → Prop) (d n i a m : Nat) (D : PD) (h : DAt w F d n D) (hi : i < n) (ha : a < 64) (hm1 : 0 < m) (hm2 : m < 256) :
    Calls Tryz.prog 26 #[.pointer (some ⟨d, 0, none⟩), .int .i64 i, .int .i64 a, .int .i64 m] w fun e w' => e = .returned (.tuple #[]) ∧ DAt w' F d n (D.rot i a m) ∧ Out F w w' := by
  obtain ⟨sb, qv, av, h1, h2, h3, h4, h5, h6⟩ := h.mem
  have HP := Lib.hid (place_yes w d sb n i qv av D.off h1 h.n4 hi)
  have H := Lib.hid h
  have HM := Lib.hid (And.intro h1 (And.intro h2 (And.intro h3 h4)))
  have H5 := Lib.hid h5
  have H6 := Lib.hid h6
  have h4k := h.n4
  have hd := h.lt d h.fd
  have hsb := heap_lt h2
  have hl := h.vd.sec.at hi
  have hfl := h.vd.sec.flat
  obtain ⟨x, hb, hx⟩ : ∃ x : UInt8, (bytesV D.ss.flatten).toArray[64 * i + a]? = some (.int .u8 (x.toNat : Int)) ∧ (D.ss.getD i []).getD a 0 = x := by
    refine ⟨(D.ss.getD i [])[a]'(by omega), ?_, by rw [List.getD_eq_getElem?_getD, List.getElem?_eq_getElem (by omega)]; rfl⟩
    have := flat_get h.vd.sec hi a (by omega)
    unfold bytesV
    rw [List.getElem?_toArray, List.getElem?_map, this]; rfl
  have HX := Lib.hid hx
  have HBB := Lib.hid hb
  have HLX := Lib.hid hl
  have HFL := Lib.hid hfl
  clear h h1 h2 h3 h4 h5 h6 hb hl hfl hx
  have a0 : (0 : Int) ≤ (a : Int) := Int.natCast_nonneg _
  have a1 : (a : Int) < 64 := by omega
  have m0 : (0 : Int) < (m : Int) := by omega
  have m1 : (m : Int) < 256 := by omega
  have i0 : (0 : Int) ≤ (i : Int) := Int.natCast_nonneg _
  have i1 : (i : Int) < 4000 := by omega
  go_enter Tryz.func26, Tryz.ntmps26
  go_wp2_with fail
  refine HP.out.mono ?_
  rintro e w1 ⟨rfl, hg⟩
  have HB := Lib.hid (hg.below)
  have HD1 := Lib.hid (HM.out.1.keep (hg.below.alloc hg.below.size (.cells #[.int .i64 ((i : Int) * 64), .int .i64 (((i : Int) + 1) * 64)] 86)))
  have HS1 := Lib.hid (((hg.below.alloc hg.below.size (.cells #[.int .i64 ((i : Int) * 64), .int .i64 (((i : Int) + 1) * 64)] 86)).block _ hsb).trans HM.out.2.1)
  obtain ⟨hd1, c0, c1, c2, c3, _⟩ := HD1.out.cells
  have cb := cell_at HS1.out HBB.out
  have fb := frozen_at HS1.out (64 * i + a)
  have hd1' : d < w1.heap.size := by have := HB.out.size; omega
  have hsb1 : sb < w1.heap.size := by have := HB.out.size; omega
  clear hg HP
  go_wp2_with fail
  have t3 : ((i : Int) * 64 + (a : Int)).toNat = 64 * i + a := by omega
  have t4 : (i : Int) * 64 + (a : Int) < 64 * (n : Int) := by omega
  have t5 : (0 : Int) ≤ (i : Int) * 64 + (a : Int) := by omega
  have hw : IntKind.i64.wrap ((i : Int) * 64 + (a : Int)) = (i : Int) * 64 + (a : Int) := IntWalk.i64_in _ (by omega)
  refine wp_region_still_tail 14 (by decide) (by kernel_rfl) ?_
  simp only [List.take_succ_cons, List.take_zero, List.drop_succ_cons, List.drop_zero]
  change wpStill _ _ (World.drew (w1.alloc _)) _ _ _
  repeat still_step
  refine wpStill_nil ?_
  change wpList _ _ _ _ _ (World.drew (w1.alloc _))
  go_wp2_with fail
  go_end0
  rw [u8_xor_nat x.toNat m x.toNat_lt hm2]
  have e1 : D.rot i a m = { D with ss := D.ss.set i ((D.ss.getD i []).set a (x ^^^ UInt8.ofNat m)) } := by
    unfold PD.rot
    have := H.out.vd.sec.1
    rw [if_pos (by omega)]
    simp only [Int.toNat_natCast, HX.out]
  have e2 : ((x.toNat ^^^ m : Nat) : Int) = ((x ^^^ UInt8.ofNat m).toNat : Int) := by
    rw [UInt8.toNat_xor, UInt8.toNat_ofNat', Nat.mod_eq_of_lt hm2]
  have hv : Vd n { D with ss := D.ss.set i ((D.ss.getD i []).set a (x ^^^ UInt8.ofNat m)) } := by
    have := H.out.vd.rot i a m
    rwa [e1] at this
  rw [e1, e2]
  have q1 := (HB.out.block _ hsb).trans HM.out.2.1
  have q0 := HM.out.1.keep HB.out
  have q2 := heap_setCell_same w1 sb (64 * i + a) _ _ (.int .u8 ((x ^^^ UInt8.ofNat m).toNat : Int)) q1
  have o1 : Out (· = sb) w1 (w1.setCell ⟨sb, 64 * i + a, none⟩ (.int .u8 ((x ^^^ UInt8.ofNat m).toNat : Int))) := Out.set w1 (a := ⟨sb, 64 * i + a, none⟩) _ rfl
  have b1 := ((Gr.one (w1.setCell ⟨sb, 64 * i + a, none⟩ (.int .u8 ((x ^^^ UInt8.ofNat m).toNat : Int))) (.cells #[.int .i64 ((i : Int) * 64), .int .i64 (((i : Int) + 1) * 64)] 86)).trans (Gr.drewn _)).below
  have dAt : DAt (w1.setCell ⟨sb, 64 * i + a, none⟩ (.int .u8 ((x ^^^ UInt8.ofNat m).toNat : Int))) F d n { D with ss := D.ss.set i ((D.ss.getD i []).set a (x ^^^ UInt8.ofNat m)) } := by
    refine ⟨hv, H.out.n4, fun k hk => Nat.lt_of_lt_of_le (Nat.lt_of_lt_of_le (H.out.lt k hk) HB.out.size) o1.size, H.out.fd, sb, qv, av, o1.heap q0 (tag_ne q0 q1 (by decide)), ?_, o1.own (own_below HM.out.2.2.1 HB.out) (fun k hk e => ?_), ?_, H5.out, H6.out⟩
    · rw [q2, flat_set H.out.vd.sec hi ha]
      simp [bytesV]
    · subst e
      exact own_tag (own_below HM.out.2.2.1 HB.out) q1 (by decide) hk
    · have h4 := HM.out.2.2.2.below HB.out
      unfold AlAt at *
      cases hal : D.alarm with
      | none => rw [hal] at h4; exact h4
      | some y =>
        obtain ⟨a', b, c⟩ := y
        rw [hal] at h4
        obtain ⟨q, e, hF, hq⟩ := h4
        exact ⟨q, e, hF, o1.heap hq (tag_ne hq q1 (by decide))⟩
  exact ⟨rfl, dAt.below b1, ((Out.of_below (F := F) HB.out).trans (o1.mono (G := F) (fun k _ e => by rw [e]; exact H5.out)) (fun _ e => Or.inl e)).trans (Out.of_below (F := F) b1) (fun _ e => Or.inl e)⟩
set_option maxHeartbeats 4000000 in
set_option maxRecDepth 100000 in
theorem rot_not (w : World) (F : Nat → Prop) (d n i : Nat) (a m : Int) (D : PD) (h : DAt w F d n D) (hi : i < n) (hc : ¬ (0 ≤ a ∧ a < 64 ∧ 0 < m ∧ m < 256)) :
    Calls Tryz.prog 26 #[.pointer (some ⟨d, 0, none⟩), .int .i64 i, .int .i64 a, .int .i64 m] w fun e w' => e = .returned (.tuple #[]) ∧ Below w.heap.size w w' := by
  obtain ⟨sb, qv, av, h1, h2, h3, h4, h5, h6⟩ := h.mem
  have HP := Lib.hid (place_yes w d sb n i qv av D.off h1 h.n4 hi)
  clear h h1 h2 h3 h4 h5 h6
  rcases (show a < 0 ∨ (0 ≤ a ∧ 64 ≤ a) ∨ (0 ≤ a ∧ a < 64 ∧ m ≤ 0) ∨ (0 ≤ a ∧ a < 64 ∧ 0 < m ∧ 256 ≤ m) by omega) with c | ⟨c1, c2⟩ | ⟨c1, c2, c3⟩ | ⟨c1, c2, c3, c4⟩
  all_goals (
    clear hc
    go_enter Tryz.func26, Tryz.ntmps26
    go_wp2_with fail
    refine HP.out.mono ?_
    rintro e w1 ⟨rfl, hg⟩
    have HB := Lib.hid hg.below
    clear hg HP
    go_wp2_with fail
    go_end0
    exact ⟨rfl, HB.out.alloc HB.out.size _⟩)
set_option maxHeartbeats 4000000 in
set_option maxRecDepth 100000 in
theorem rot_out (w : World) (F : Nat → Prop) (d n : Nat) (i a m : Int) (D : PD) (h : DAt w F d n D) (hi : i < 0 ∨ (n : Int) ≤ i) :
    Calls Tryz.prog 26 #[.pointer (some ⟨d, 0, none⟩), .int .i64 i, .int .i64 a, .int .i64 m] w fun e w' => e = .returned (.tuple #[]) ∧ Below w.heap.size w w' := by
  obtain ⟨sb, qv, av, h1, h2, h3, h4, h5, h6⟩ := h.mem
  have HP := Lib.hid (place_no w d sb n i qv av D.off h1 h.n4 hi)
  clear h h1 h2 h3 h4 h5 h6 hi
  go_enter Tryz.func26, Tryz.ntmps26
  go_wp2_with fail
  refine HP.out.mono ?_
  rintro e w1 ⟨rfl, hg⟩
  have HB := Lib.hid hg.below
  clear hg HP
  go_wp2_with fail
  all_goals (go_end0; exact ⟨rfl, HB.out.alloc HB.out.size _⟩)
theorem rot_any (w : World) (F : Nat → Prop) (d n : Nat) (i a m : Int) (D : PD) (h : DAt w F d n D) :
    Calls Tryz.prog 26 #[.pointer (some ⟨d, 0, none⟩), .int .i64 i, .int .i64 a, .int .i64 m] w fun e w' => e = .returned (.tuple #[]) ∧ DAt w' F d n (D.rot i a m) ∧ Out F w w' := by
  have hl := h.vd.sec.1
  by_cases hi : 0 ≤ i ∧ i < n
  · obtain ⟨k, rfl⟩ : ∃ k : Nat, i = k := ⟨i.toNat, by omega⟩
    by_cases hc : 0 ≤ a ∧ a < 64 ∧ 0 < m ∧ m < 256
    · obtain ⟨b, rfl⟩ : ∃ b : Nat, a = b := ⟨a.toNat, by omega⟩
      obtain ⟨c, rfl⟩ : ∃ c : Nat, m = c := ⟨m.toNat, by omega⟩
      exact rot_yes w F d n k b c D h (by omega) (by omega) (by omega) (by omega)
    · refine (rot_not w F d n k a m D h (by omega) hc).mono ?_
      rintro e w' ⟨rfl, hb⟩
      have e1 : D.rot k a m = D := by unfold PD.rot; rw [if_neg (fun x => hc ⟨x.2.2.1, x.2.2.2.1, x.2.2.2.2.1, x.2.2.2.2.2⟩)]
      rw [e1]
      exact ⟨rfl, h.below hb, Out.of_below hb⟩
  · refine (rot_out w F d n i a m D h (by omega)).mono ?_
    rintro e w' ⟨rfl, hb⟩
    have e1 : D.rot i a m = D := by unfold PD.rot; rw [if_neg (by omega)]
    rw [e1]
    exact ⟨rfl, h.below hb, Out.of_below hb⟩
end Go.Proofs.YtihoomlaggihlaaGreatDoor
