/- The contract of the disk's Write. Under no condition but sizes. -/
/- The contracts of the disk's Sync, Start and Arm, on the disk in memory. Under no condition but sizes. -/
/- The contract of the disk's Read. Under no condition but sizes. -/
import Derived.Test.YtihoomlaggihlaaGreatDoorJK
import Derived.Deep.AppendLies
import Derived.Deep.RegionHeld3
import Derived.Deep.QuietTactic
import Derived.BigQuiet
namespace Go.Proofs.YtihoomlaggihlaaGreatDoor
open Go.RowKit

theorem info60 : (Tryz.prog.info? 88).map (fun i => (i.zero, i.size, i.bytes)) = some (some (.agg #[.int .i64 0, .int .i64 0, .string ⟨#[]⟩]), 3, 32) := by kernel_rfl
theorem own_tag {w : World} {base e size n : Nat} {v : Value} {xs : List Value} (h : w.ownsRow base e size v n xs) {b : Nat} {cs : Array Value} {t : TypeId} (g : w.heap[b]? = some (.cells cs t (0, 0))) (ht : e ≠ t) : v.ownBlock ≠ some b := by
  intro k
  rcases h.2 with ⟨rfl, _⟩ | ⟨q, cap, cur, rfl, _, hq, _⟩
  · simp [Value.ownBlock] at k
  · simp [Value.ownBlock] at k
    subst k
    exact tag_ne hq g ht rfl
theorem grown_heap {w w' : World} {row : Option Nat} (h : w.grownBy w' row) {k : Nat} {o : Obj} (ho : w.heap[k]? = some o) (hk : row ≠ some k) : w'.heap[k]? = some o := (h.block k (heap_lt ho) (fun e => hk e.symm)).trans ho
theorem write_dat {w W w5 : World} {F : Nat → Prop} {d n g cap sb i : Nat} {D : PD} {qv av : Value} {t : List UInt8} (h : DAt w F d n D) (ho : D.off = false) (h1 : DB w d sb n qv false av) (h2 : w.heap[sb]? = some (.cells (bytesV D.ss.flatten).toArray 5 (0, 0))) (h3 : w.ownsRow 0 88 3 qv D.pend.length (flatP D.pend)) (h4 : AlAt w F av D.alarm) (h5 : F sb) (h6 : ∀ k, qv.ownBlock = some k → F k)
    (hW : Below w.heap.size w W) (o5 : w5.ownsRow 0 88 3 (.slice (some ⟨g, 0, none⟩) (D.pend.length + 1) cap) (D.pend.length + 1) (flatP D.pend ++ flatP [(i, t)])) (g5 : W.grownBy w5 qv.ownBlock) (l5 : qv.ownBlock = some g ∨ g = W.heap.size) (hi : i < n) (ht : t.length = 64) :
    DAt (w5.setCell ⟨d, 1, none⟩ (.slice (some ⟨g, 0, none⟩) (D.pend.length + 1) cap)) (fun k => F k ∨ k = g) d n { D with pend := D.pend ++ [(i, t)] } ∧ Stp F w (fun k => F k ∨ k = g) (w5.setCell ⟨d, 1, none⟩ (.slice (some ⟨g, 0, none⟩) (D.pend.length + 1) cap)) := by
  have b1 := (hW.block _ (heap_lt h1)).trans h1
  have b2 := (hW.block _ (heap_lt h2)).trans h2
  have b3 := own_below h3 hW
  have c1 : DB w5 d sb n qv false av := grown_heap g5 b1 (own_tag b3 b1 (by decide))
  have c2 := grown_heap g5 b2 (own_tag b3 b2 (by decide))
  have o1 : Out (· = d) w5 (w5.setCell ⟨d, 1, none⟩ (.slice (some ⟨g, 0, none⟩) (D.pend.length + 1) cap)) := Out.set w5 (a := ⟨d, 1, none⟩) _ rfl
  have oF : Out F w (w5.setCell ⟨d, 1, none⟩ (.slice (some ⟨g, 0, none⟩) (D.pend.length + 1) cap)) :=
    ((Out.of_below (F := F) hW).trans (Out.grown (F := F) g5 h6) (fun _ e => Or.inl e)).trans (o1.mono (fun k _ e => by rw [e]; exact h.fd)) (fun _ e => Or.inl e)
  have hgl := (o5.lt g rfl).2
  refine ⟨⟨⟨h.vd.sec, h.vd.whole.app (fun p hp => ?_), h.vd.al⟩, h.n4, fun k hk => ?_, Or.inl h.fd, sb, .slice (some ⟨g, 0, none⟩) (D.pend.length + 1) cap, av, ?_, o1.heap c2 (tag_ne c2 c1 (by decide)), ?_, ?_, Or.inl h5, fun k hk => Or.inr ?_⟩, oF, fun k hk => ?_⟩
  · simp at hp; rw [hp]; exact ⟨hi, ht⟩
  · rcases hk with hk | rfl
    · exact Nat.lt_of_lt_of_le (h.lt k hk) oF.size
    · exact Nat.lt_of_lt_of_le hgl o1.size
  · simp only [ho]
    exact c1.set1 _
  · have e : flatP (D.pend ++ [(i, t)]) = flatP D.pend ++ flatP [(i, t)] := by simp [flatP]
    simp only [List.length_append, List.length_singleton]
    rw [e]
    refine o1.own o5 (fun k hk e => ?_)
    subst e
    exact own_tag o5 c1 (by decide) hk
  · unfold AlAt at *
    cases hal : D.alarm with
    | none => rw [hal] at h4; exact h4
    | some x =>
      obtain ⟨a, b, c⟩ := x
      rw [hal] at h4
      obtain ⟨q, e, hF, hq⟩ := h4
      have q1 := (hW.block _ (heap_lt hq)).trans hq
      have q2 := grown_heap g5 q1 (own_tag b3 q1 (by decide))
      exact ⟨q, e, Or.inl hF, o1.heap q2 (tag_ne q2 c1 (by decide))⟩
  · simp [Value.ownBlock] at hk
    exact hk.symm
  · rcases hk with hk | rfl
    · exact Or.inl hk
    · rcases l5 with e | e
      · exact Or.inl (h6 _ e)
      · exact Or.inr (by rw [e]; exact hW.size)
set_option maxHeartbeats 4000000 in
set_option maxRecDepth 100000 in
theorem write_off (w : World) (F : Nat → Prop) (d n : Nat) (D : PD) (i : Nat) (t : List UInt8) (h : DAt w F d n D) (ho : D.off = true) :
    Calls Tryz.prog 76 #[.pointer (some ⟨d, 0, none⟩), .int .i64 i, .string ⟨t.toArray⟩] w fun e w' => e = .returned (.int .i64 21) ∧ Below w.heap.size w w' := by
  obtain ⟨sb, qv, av, h1, h2, h3, h4, h5, h6⟩ := h.mem
  rw [ho] at h1
  have HA := Lib.hid (at_off w d sb n i qv av h1)
  clear h h1 h2 h3 h4 h5 h6 ho
  go_enter Tryz.func76, Tryz.ntmps76
  go_wp2_with fail
  refine HA.out.mono ?_
  rintro e w1 ⟨rfl, hb⟩
  have HB := Lib.hid hb.below
  clear hb
  go_wp2_with fail
  go_ret
  exact ⟨rfl, HB.out.alloc HB.out.size _⟩
set_option maxHeartbeats 4000000 in
set_option maxRecDepth 100000 in
theorem write_on (w : World) (F : Nat → Prop) (d n : Nat) (D : PD) (i : Nat) (t : List UInt8) (h : DAt w F d n D) (ho : D.off = false) (hi : i < n) (ht : t.length = 64) (hm : D.pend.length ≤ 10000) :
    Calls Tryz.prog 76 #[.pointer (some ⟨d, 0, none⟩), .int .i64 i, .string ⟨t.toArray⟩] w fun e w' => e = .returned (.int .i64 (D.write i t).2) ∧ ∃ F', DAt w' F' d n (D.write i t).1 ∧ Stp F w F' w' := by
  obtain ⟨sb, qv, av, h1, h2, h3, h4, h5, h6⟩ := h.mem
  rw [ho] at h1
  have HA := Lib.hid (at_yes w d sb n i qv av h1 h.n4 hi)
  have H := Lib.hid h
  have HM := Lib.hid (And.intro h1 (And.intro h2 (And.intro h3 (And.intro h4 (And.intro h5 h6)))))
  have HO := Lib.hid ho
  have HT := Lib.hid ht
  have hd := h.lt d h.fd
  have htz : (⟨t.toArray⟩ : ByteArray).size = 64 := by simp [ByteArray.size, ht]
  clear h h1 h2 h3 h4 h5 h6 ho ht
  go_enter Tryz.func76, Tryz.ntmps76
  go_wp2_with fail
  refine HA.out.mono ?_
  rintro e w1 ⟨rfl, hb⟩
  have HB := Lib.hid hb
  have c1 : w1.cell? ⟨d, 1, none⟩ = some qv := (HM.out.1.keep hb).cells.2.2.1
  have hd1 : d < w1.heap.size := Nat.lt_of_lt_of_le hd hb.size
  have fz1 : w1.frozen? ⟨d, 1, none⟩ = false := (HM.out.1.keep hb).cells.2.2.2.2.2 1
  clear hb HA
  go_wp2_with fail
  obtain ⟨i60, hi60, ha60, hb60, hc60⟩ := info_parts info60
  have hqd : ∀ k, qv.ownBlock = some k → k ≠ d := fun k hk e => by
    subst e
    rcases HM.out.2.2.1.2 with ⟨rfl, _⟩ | ⟨q, cap, cur, rfl, _, hq, _⟩
    · simp [Value.ownBlock] at hk
    · simp [Value.ownBlock] at hk
      subst hk
      exact tag_ne hq HM.out.1 (by decide) rfl
  have HQD := Lib.hid hqd
  have HQL := Lib.hid (fun k hk => (HM.out.2.2.1.lt k hk).2)
  have HZ := Lib.hid HB.out.size
  have HBW := Lib.hid ((((Below.refl w1.heap.size w1).alloc (Nat.le_refl _) (.cells #[.int .i64 ((i : Int) * 64), .int .i64 (((i : Int) + 1) * 64)] 86)).alloc (by simp) (.cells #[.int .i64 ((i : Int) * 64), .int .i64 (((i : Int) + 1) * 64), .string ⟨t.toArray⟩] 88)).drew)
  have HN := Lib.hid (World.news_of_block (heap_alloc_new (w1.alloc (.cells #[.int .i64 ((i : Int) * 64), .int .i64 (((i : Int) + 1) * 64)] 86)) (.cells #[.int .i64 ((i : Int) * 64), .int .i64 (((i : Int) + 1) * 64), .string ⟨t.toArray⟩] 88)))
  clear hqd
  go_region_law
    (first
      | (refine step_append_lies _ (by rfl) (.tmp 25) (.tmp 29) 69 (by rfl) 0 88 i60 _ 3 32 Tryz.underlying69 hi60 ha60 hb60 hc60 rfl (by decide) qv D.pend.length (flatP D.pend) (by rfl) (by exact own_below HM.out.2.2.1 (((HB.out.alloc HB.out.size _).alloc (by have := HB.out.size; simp; omega) _).drew)) ⟨w1.heap.size + 1, 0, none⟩ 1 1 (flatP [(i, t)]) (by rfl) (by rfl) (by intro j u hu; simpa using HN.out j u (by simpa [flatP] using hu)) (by intro u hu; simp [flatP] at hu; rcases hu with h | h | h <;> subst h <;> rfl) (by decide) (by unfold maxLen; omega) (by omega) (by simp) _ rfl ?_; intro g cap w5 ho5 hg5 hl5 hm5; (have y0 : w5.cell? ⟨d, 1, none⟩ = some qv := by rw [hg5.cell_far ⟨d, 1, none⟩ (by simp; omega) (fun e => HQD.out _ e.symm rfl)]; exact (HBW.out.cell (p := ⟨d, 1, none⟩) hd1).trans c1); (have HG5 := Lib.hid (And.intro ho5 (And.intro hg5 (And.intro hl5 hm5)))); (have hd5 : d < w5.heap.size := by have := hg5.size; simp at this; omega); (have f5 : w5.frozen? ⟨d, 1, none⟩ = false := by rw [hg5.frozen_far ⟨d, 1, none⟩ (by simp; omega) (fun e => HQD.out _ e.symm rfl)]; exact (HBW.out.frozen (p := ⟨d, 1, none⟩) hd1).trans fz1); clear ho5 hg5 hl5 hm5))
  all_goals (
    have HD5 := Lib.hid (write_dat H.out HO.out HM.out.1 HM.out.2.1 HM.out.2.2.1 HM.out.2.2.2.1 HM.out.2.2.2.2.1 HM.out.2.2.2.2.2 (HB.out.trans (HBW.out.mono HB.out.size)) HG5.out.1 HG5.out.2.1 HG5.out.2.2.1 hi HT.out)
    clear HG5 y0 f5 hd5 c1 fz1
    go_wp2_with fail
    refine (count_any _ _ d n _ HD5.out.1 (by simp; omega)).mono ?_
    rintro e w6 ⟨rfl, hb, ho⟩
    have e1 : D.write i t = PD.count { D with pend := D.pend ++ [(i, t)] } := by unfold PD.write; rw [HO.out]; simp
    have HE := Lib.hid e1
    have HB6 := Lib.hid hb
    have HO6 := Lib.hid ho
    clear e1 hb ho
    go_wp2_with fail
    go_ret
    rw [HE.out]
    exact ⟨rfl, _, HB6.out, HD5.out.2.trans (Stp.same HO6.out)⟩)
theorem write_any (w : World) (F : Nat → Prop) (d n : Nat) (D : PD) (i : Nat) (t : List UInt8) (h : DAt w F d n D) (hi : i < n) (ht : t.length = 64) (hm : D.pend.length ≤ 10000) :
    Calls Tryz.prog 76 #[.pointer (some ⟨d, 0, none⟩), .int .i64 i, .string ⟨t.toArray⟩] w fun e w' => e = .returned (.int .i64 (D.write i t).2) ∧ ∃ F', DAt w' F' d n (D.write i t).1 ∧ Stp F w F' w' := by
  by_cases ho : D.off = true
  · refine (write_off w F d n D i t h ho).mono ?_
    rintro e w' ⟨rfl, hb⟩
    have e1 : D.write i t = (D, 21) := by unfold PD.write; rw [if_pos ho]
    rw [e1]
    exact ⟨rfl, F, h.below hb, Stp.below hb⟩
  · exact write_on w F d n D i t h (by simpa using ho) hi ht hm
end Go.Proofs.YtihoomlaggihlaaGreatDoor

namespace Go.Proofs.YtihoomlaggihlaaGreatDoor
open Go.RowKit

theorem settle_q (w : World) (d sb n : Nat) (qv av : Value) (off : Bool) (ss : List (List UInt8)) (l : List (Nat × List UInt8)) (h : DB w d sb n qv off av) (h2 : w.heap[sb]? = some (.cells (bytesV ss.flatten).toArray 5 (0, 0))) (h3 : w.ownsRow 0 88 3 qv l.length (flatP l)) (hS : Sec n ss) (hl : Whole n l) (hm : l.length ≤ 100000) :
    Calls Tryz.prog 61 #[.pointer (some ⟨d, 0, none⟩), qv] w fun e w' => e = .returned (.tuple #[]) ∧ w'.heap[sb]? = some (.cells (bytesV (settleS ss l).flatten).toArray 5 (0, 0)) ∧ Out (· = sb) w w' := by
  have hds : d ≠ sb := tag_ne h h2 (by decide)
  rw [flat_settle hS hl.le]
  rcases queue_at h3 h2 with ⟨rfl, rfl⟩ | ⟨q, c, rfl, hc, _, hq, _⟩
  · exact settle_any w d sb n _ av off none 0 ss.flatten [] h hds h2 hS.flat (by simp) (fun k hk => absurd hk (by simp)) (by simp)
  · exact settle_any w d sb n _ av off _ c ss.flatten l h hds h2 hS.flat hl.le hq hm
theorem count_cases (D : PD) : D.count.2 = 0 ∨ D.count.2 = 21 := by
  unfold PD.count
  split
  · exact Or.inl rfl
  · split
    · exact Or.inl rfl
    · exact Or.inr rfl
theorem count_off (D : PD) (h : D.count.2 = 0) : D.count.1.off = D.off ∧ D.count.1.pend = D.pend ∧ D.count.1.ss = D.ss := by
  unfold PD.count at *
  split
  · exact ⟨rfl, rfl, rfl⟩
  · split
    · exact ⟨rfl, rfl, rfl⟩
    · rename_i h1 h2
      rw [h1] at h
      simp [h2] at h
set_option maxHeartbeats 4000000 in
set_option maxRecDepth 100000 in
theorem sync_off (w : World) (F : Nat → Prop) (d n : Nat) (D : PD) (h : DAt w F d n D) (ho : D.off = true) :
    Calls Tryz.prog 77 #[.pointer (some ⟨d, 0, none⟩)] w fun e w' => e = .returned (.int .i64 21) ∧ w = w' := by
  obtain ⟨sb, qv, av, h1, h2, h3, h4, h5, h6⟩ := h.mem
  rw [ho] at h1
  obtain ⟨hd, c0, c1, c2, c3, fz⟩ := h1.cells
  clear h h1 h2 h3 h4 h5 h6 ho fz
  go_enter Tryz.func77, Tryz.ntmps77
  go_wp2_with fail
  go_ret
  exact ⟨rfl, rfl⟩
set_option maxHeartbeats 4000000 in
set_option maxRecDepth 100000 in
theorem sync_cut (w : World) (F : Nat → Prop) (d n : Nat) (D : PD) (h : DAt w F d n D) (ho : D.off = false) (hc : D.count.2 = 21) (hm : D.pend.length ≤ 100000) :
    Calls Tryz.prog 77 #[.pointer (some ⟨d, 0, none⟩)] w fun e w' => e = .returned (.int .i64 21) ∧ DAt w' F d n D.count.1 ∧ Out F w w' := by
  have HC := count_any w F d n D h hm
  rw [hc] at HC
  replace HC := Lib.hid HC
  obtain ⟨sb, qv, av, h1, h2, h3, h4, h5, h6⟩ := h.mem
  rw [ho] at h1
  obtain ⟨hd, c0, c1, c2, c3, fz⟩ := h1.cells
  clear h h1 h2 h3 h4 h5 h6 ho fz hc
  go_enter Tryz.func77, Tryz.ntmps77
  go_wp2_with fail
  refine HC.out.mono ?_
  rintro e w1 ⟨rfl, hb, ho⟩
  have HB := Lib.hid (And.intro hb ho)
  clear hb ho HC
  go_wp2_with fail
  go_ret
  exact ⟨rfl, HB.out⟩
set_option maxHeartbeats 4000000 in
set_option maxRecDepth 100000 in
theorem sync_on (w : World) (F : Nat → Prop) (d n : Nat) (D : PD) (h : DAt w F d n D) (ho : D.off = false) (hc : D.count.2 = 0) (hm : D.pend.length ≤ 100000) :
    Calls Tryz.prog 77 #[.pointer (some ⟨d, 0, none⟩)] w fun e w' => e = .returned (.int .i64 0) ∧ DAt w' F d n { D.count.1 with ss := settleS D.count.1.ss D.count.1.pend, pend := [] } ∧ Out F w w' := by
  have HC := count_any w F d n D h hm
  rw [hc] at HC
  replace HC := Lib.hid HC
  have HO := Lib.hid (count_off D hc)
  obtain ⟨sb, qv, av, h1, h2, h3, h4, h5, h6⟩ := h.mem
  rw [ho] at h1
  obtain ⟨hd, c0, c1, c2, c3, fz⟩ := h1.cells
  have HF := Lib.hid ho
  clear h h1 h2 h3 h4 h5 h6 ho fz hc
  go_enter Tryz.func77, Tryz.ntmps77
  go_wp2_with fail
  refine HC.out.mono ?_
  rintro e w1 ⟨rfl, hb, ho⟩
  have HB := Lib.hid (And.intro hb ho)
  clear ho HC c0 c1 c2 c3 sb qv av
  obtain ⟨sb, qv, av, h1, h2, h3, h4, h5, h6⟩ := hb.mem
  have e0 : D.count.1.off = false := by rw [HO.out.1]; exact HF.out
  rw [e0] at h1
  obtain ⟨hd, c0, c1, c2, c3, fz⟩ := h1.cells
  have HQ := Lib.hid (settle_q w1 d sb n qv av false D.count.1.ss D.count.1.pend h1 h2 h3 hb.vd.sec hb.vd.whole (by rw [HO.out.2.1]; exact hm))
  have HM := Lib.hid (And.intro h1 (And.intro h2 (And.intro h3 (And.intro h4 (And.intro h5 h6)))))
  have HE0 := Lib.hid e0
  clear h1 h2 h3 h4 h5 h6 fz e0 hb
  go_wp2_with fail
  refine HQ.out.mono ?_
  rintro e w2 ⟨rfl, g1, g2⟩
  have G1 := Lib.hid g1
  have G2 := Lib.hid g2
  have HB2 : Hid (DB w2 d sb n qv false av) := Lib.hid (g2.heap HM.out.1 (tag_ne HM.out.1 HM.out.2.1 (by decide)))
  obtain ⟨hd2, d0, d1, d2, d3, fz⟩ := HB2.out.cells
  have f1 := fz 1
  clear g1 g2 HQ c0 c1 c2 c3 fz
  go_wp2_with fail
  go_ret
  have o1 : Out (· = d) w2 (w2.setCell ⟨d, 1, none⟩ (.slice none 0 0)) := Out.set w2 (a := ⟨d, 1, none⟩) _ rfl
  have oF : Out F w1 (w2.setCell ⟨d, 1, none⟩ (.slice none 0 0)) := (G2.out.mono (fun k _ e => by rw [e]; exact HM.out.2.2.2.2.1)).trans (o1.mono (G := F) (fun k _ e => by rw [e]; exact HB.out.1.fd)) (fun _ e => Or.inl e)
  refine ⟨rfl, ⟨⟨HB.out.1.vd.sec.settle HB.out.1.vd.whole.le, by simp [Whole], HB.out.1.vd.al⟩, HB.out.1.n4, fun k hk => Nat.lt_of_lt_of_le (HB.out.1.lt k hk) oF.size, HB.out.1.fd, sb, .slice none 0 0, av, ?_, o1.heap G1.out (tag_ne G1.out HB2.out (by decide)), World.ownsRow_nil _ _ _ _, ?_, HM.out.2.2.2.2.1, by simp [Value.ownBlock]⟩, HB.out.2.trans oF (fun _ e => Or.inl e)⟩
  · simp only [HE0.out]
    exact HB2.out.set1 _
  · have h4 := HM.out.2.2.2.1
    unfold AlAt at *
    cases hal : D.count.1.alarm with
    | none => rw [hal] at h4; exact h4
    | some x =>
      obtain ⟨a, b, c⟩ := x
      rw [hal] at h4
      obtain ⟨q, e, hF, hq⟩ := h4
      have q1 := G2.out.heap hq (tag_ne hq HM.out.2.1 (by decide))
      exact ⟨q, e, hF, o1.heap q1 (tag_ne q1 HB2.out (by decide))⟩
theorem sync_any (w : World) (F : Nat → Prop) (d n : Nat) (D : PD) (h : DAt w F d n D) (hm : D.pend.length ≤ 100000) :
    Calls Tryz.prog 77 #[.pointer (some ⟨d, 0, none⟩)] w fun e w' => e = .returned (.int .i64 D.sync.2) ∧ DAt w' F d n D.sync.1 ∧ Out F w w' := by
  by_cases ho : D.off = true
  · refine (sync_off w F d n D h ho).mono ?_
    rintro e w' ⟨rfl, rfl⟩
    have e1 : D.sync = (D, 21) := by unfold PD.sync; rw [if_pos ho]
    rw [e1]
    exact ⟨rfl, h, Out.refl F w⟩
  · have ho : D.off = false := by simpa using ho
    rcases count_cases D with hc | hc
    · have e1 : D.sync = ({ D.count.1 with ss := settleS D.count.1.ss D.count.1.pend, pend := [] }, 0) := by unfold PD.sync; rw [ho]; simp [hc]
      rw [e1]
      exact sync_on w F d n D h ho hc hm
    · have e1 : D.sync = D.count := by unfold PD.sync; rw [ho]; simp [hc]
      rw [e1, hc]
      exact sync_cut w F d n D h ho hc hm
theorem start_dat (w : World) (F : Nat → Prop) (d n : Nat) (D : PD) (h : DAt w F d n D) :
    Calls Tryz.prog 22 #[.pointer (some ⟨d, 0, none⟩)] w fun e w' => e = .returned (.tuple #[]) ∧ DAt w' F d n D.start ∧ Out F w w' := by
  obtain ⟨sb, qv, av, h1, h2, h3, h4, h5, h6⟩ := h.mem
  refine (start_any w d sb n qv av D.off h1).mono ?_
  rintro e w' ⟨rfl, g1, g2⟩
  have oF : Out F w w' := g2.mono (fun k _ e => by rw [e]; exact h.fd)
  exact ⟨rfl, ⟨⟨h.vd.sec, h.vd.whole, by simp [PD.start]⟩, h.n4, fun k hk => Nat.lt_of_lt_of_le (h.lt k hk) oF.size, h.fd, sb, qv, _, g1, g2.heap h2 (tag_ne h2 h1 (by decide)), g2.own h3 (fun k hk e => by subst e; exact own_tag h3 h1 (by decide) hk), rfl, h5, h6⟩, oF⟩
theorem arm_dat (w : World) (F : Nat → Prop) (d n : Nat) (D : PD) (a b c : Int) (h : DAt w F d n D) (ha : a ≤ 9223372036854775807) :
    Calls Tryz.prog 24 #[.pointer (some ⟨d, 0, none⟩), .int .i64 a, .int .i64 b, .int .i64 c] w fun e w' => e = .returned (.tuple #[]) ∧ ∃ F', DAt w' F' d n (D.arm a b c) ∧ Stp F w F' w' := by
  obtain ⟨sb, qv, av, h1, h2, h3, h4, h5, h6⟩ := h.mem
  by_cases ho : D.off = true
  · rw [ho] at h1
    refine (arm_off w d sb n qv av a b c h1).mono ?_
    rintro e w' ⟨rfl, rfl⟩
    have e1 : D.arm a b c = D := by unfold PD.arm; rw [if_pos ho]
    rw [e1]
    exact ⟨rfl, F, h, Stp.refl F w⟩
  · have ho : D.off = false := by simpa using ho
    rw [ho] at h1
    by_cases hz : 0 ≤ a
    · refine (arm_at w d sb n qv av a b c h1 hz).mono ?_
      rintro e w' ⟨rfl, g, g1, g2, g3, g4⟩
      have e1 : D.arm a b c = { D with alarm := some (a, b, c) } := by unfold PD.arm; rw [ho]; simp [hz]
      rw [e1]
      have oF : Out F w w' := g4.mono (fun k _ e => by rw [e]; exact h.fd)
      refine ⟨rfl, fun k => F k ∨ k = g, ⟨⟨h.vd.sec, h.vd.whole, fun x y z e => ?_⟩, h.n4, fun k hk => ?_, Or.inl h.fd, sb, qv, _, by simp only [ho]; exact g1, g4.heap h2 (tag_ne h2 h1 (by decide)), g4.own h3 (fun k hk e => by subst e; exact own_tag h3 h1 (by decide) hk), ⟨g, rfl, Or.inr rfl, g2⟩, Or.inl h5, fun k hk => Or.inl (h6 k hk)⟩, oF, fun k hk => ?_⟩
      · simp at e; omega
      · rcases hk with hk | rfl
        · exact Nat.lt_of_lt_of_le (h.lt k hk) oF.size
        · exact heap_lt g2
      · rcases hk with hk | rfl
        · exact Or.inl hk
        · exact Or.inr g3
    · refine (arm_never w d sb n qv av a b c h1 (by omega)).mono ?_
      rintro e w' ⟨rfl, g1, g4⟩
      have e1 : D.arm a b c = { D with alarm := none } := by unfold PD.arm; rw [ho]; simp [hz]
      rw [e1]
      have oF : Out F w w' := g4.mono (fun k _ e => by rw [e]; exact h.fd)
      exact ⟨rfl, F, ⟨⟨h.vd.sec, h.vd.whole, by simp⟩, h.n4, fun k hk => Nat.lt_of_lt_of_le (h.lt k hk) oF.size, h.fd, sb, qv, _, by simp only [ho]; exact g1, g4.heap h2 (tag_ne h2 h1 (by decide)), g4.own h3 (fun k hk e => by subst e; exact own_tag h3 h1 (by decide) hk), rfl, h5, h6⟩, Stp.same oF⟩
end Go.Proofs.YtihoomlaggihlaaGreatDoor

namespace Go.Proofs.YtihoomlaggihlaaGreatDoor
open Go.RowKit

theorem put_own' {n : Nat} {S : List (List UInt8)} (h : Sec n S) {p : Nat} (hp : p < n) {t : List UInt8} (ht : t.length = 64) : (put1 S p t).getD p [] = t := by
  rw [put_at (by rw [h.1]; exact hp), if_pos rfl, List.drop_of_length_le (by rw [h.at hp]; omega), List.append_nil]
theorem rd_hit {n i k : Nat} {D : PD} (hv : Vd n D) (hk : k < D.pend.length) (h : D.pend[k].1 = i) (hr : ∀ m (hm : m < D.pend.length), k < m → D.pend[m].1 ≠ i) : D.rd i = D.pend[k].2 := by
  have hw := hv.whole _ (List.getElem_mem hk)
  have e : D.pend = D.pend.take k ++ (D.pend[k] :: D.pend.drop (k + 1)) := by rw [List.getElem_cons_drop, List.take_append_drop]
  unfold PD.rd
  conv => lhs; rw [e]
  rw [settle_app, settle_cons, settle_far]
  · rw [h] at hw ⊢
    exact put_own' (hv.sec.settle (hv.whole.take k).le) hw.1 hw.2
  · intro p hp
    obtain ⟨m, hm, rfl⟩ := List.getElem_of_mem hp
    rw [List.getElem_drop]
    rw [List.length_drop] at hm
    exact hr _ (by omega) (by omega)
theorem rd_miss {i : Nat} {D : PD} (hr : ∀ m (hm : m < D.pend.length), D.pend[m].1 ≠ i) : D.rd i = D.ss.getD i [] := by
  unfold PD.rd
  refine settle_far (fun p hp => ?_)
  obtain ⟨m, hm, rfl⟩ := List.getElem_of_mem hp
  exact hr m hm
theorem flat_get {n i : Nat} {ss : List (List UInt8)} (h : Sec n ss) (hi : i < n) (j : Nat) (hj : j < (ss.getD i []).length) : ss.flatten[64 * i + j]? = some (ss.getD i [])[j] := by
  obtain ⟨A, C, e, hA, hF⟩ := h.split hi
  generalize ss.getD i [] = x at *
  rw [e, List.flatten_append, List.flatten_cons, List.getElem?_append_right (by omega), hF, show 64 * i + j - 64 * i = j by omega, List.getElem?_append_left hj, List.getElem?_eq_getElem hj]
theorem queue_form {w : World} {sb : Nat} {qv : Value} {l : List (Nat × List UInt8)} {cs : Array Value} (h : w.ownsRow 0 88 3 qv l.length (flatP l)) (hs : w.heap[sb]? = some (.cells cs 5 (0, 0))) : ∃ a c, qv = .slice a l.length c ∧ l.length ≤ c ∧ QAt w a sb l := by
  rcases queue_at h hs with ⟨rfl, rfl⟩ | ⟨q, c, rfl, hc, _, hq, _⟩
  · exact ⟨none, 0, rfl, Nat.le_refl _, fun k hk => absurd hk (by simp)⟩
  · exact ⟨_, c, rfl, hc, hq⟩
theorem QAt.below {w w' : World} {a : Option Addr} {sb : Nat} {l : List (Nat × List UInt8)} (h : QAt w a sb l) (o : Below w.heap.size w w') : QAt w' a sb l := fun k hk => by
  obtain ⟨q, cs, h1, h2, h3, h4⟩ := h k hk
  exact ⟨q, cs, h1, h2, (o.block _ (heap_lt h3)).trans h3, h4⟩
theorem Gr.drewN (w : World) (n : Nat) : Gr w (w.drewN n) := ⟨n, #[], by rw [Sort.grow_empty]⟩
/-- no pending write from k on is of sector i -/
def NoW (D : PD) (i k : Nat) : Prop := ∀ m (hm : m < D.pend.length), k ≤ m → D.pend[m].1 ≠ i
set_option maxHeartbeats 4000000 in
set_option maxRecDepth 100000 in
theorem read_off (w : World) (F : Nat → Prop) (d n : Nat) (D : PD) (i : Nat) (h : DAt w F d n D) (ho : D.off = true) :
    Calls Tryz.prog 32 #[.pointer (some ⟨d, 0, none⟩), .int .i64 i] w fun e w' => e = .returned (.tuple #[.string ⟨#[]⟩, .int .i64 21]) ∧ Below w.heap.size w w' := by
  obtain ⟨sb, qv, av, h1, h2, h3, h4, h5, h6⟩ := h.mem
  rw [ho] at h1
  have HA := Lib.hid (at_off w d sb n i qv av h1)
  clear h h1 h2 h3 h4 h5 h6 ho
  go_enter Tryz.func32, Tryz.ntmps32
  go_wp2_with fail
  refine HA.out.mono ?_
  rintro e w1 ⟨rfl, hb⟩
  have HB := Lib.hid hb.below
  clear hb
  go_wp2_with fail
  go_ret2
  exact ⟨rfl, HB.out.alloc HB.out.size _⟩
set_option maxHeartbeats 4000000 in
set_option maxRecDepth 100000 in
theorem read_no (w : World) (F : Nat → Prop) (d n : Nat) (D : PD) (i : Nat) (h : DAt w F d n D) (ho : D.off = false) (hi : n ≤ i) :
    Calls Tryz.prog 32 #[.pointer (some ⟨d, 0, none⟩), .int .i64 i] w fun e w' => e = .returned (.tuple #[.string ⟨#[]⟩, .int .i64 1]) ∧ Below w.heap.size w w' := by
  obtain ⟨sb, qv, av, h1, h2, h3, h4, h5, h6⟩ := h.mem
  rw [ho] at h1
  have HA := Lib.hid (at_no w d sb n i qv av h1 h.n4 (Or.inr (by omega)))
  clear h h1 h2 h3 h4 h5 h6 ho
  go_enter Tryz.func32, Tryz.ntmps32
  go_wp2_with fail
  refine HA.out.mono ?_
  rintro e w1 ⟨rfl, hb⟩
  have HB := Lib.hid hb
  clear hb
  go_wp2_with fail
  go_ret2
  exact ⟨rfl, HB.out.alloc HB.out.size _⟩
set_option maxHeartbeats 4000000 in
set_option maxRecDepth 100000 in
theorem read_yes (w : World) (F : Nat → Prop) (d n : Nat) (D : PD) (i : Nat) (h : DAt w F d n D) (ho : D.off = false) (hi : i < n) (hm : D.pend.length ≤ 100000) :
    Calls Tryz.prog 32 #[.pointer (some ⟨d, 0, none⟩), .int .i64 i] w fun e w' => e = .returned (.tuple #[.string ⟨(D.rd i).toArray⟩, .int .i64 0]) ∧ Below w.heap.size w w' := by
  obtain ⟨sb, qv, av, h1, h2, h3, h4, h5, h6⟩ := h.mem
  rw [ho] at h1
  have HA := Lib.hid (at_yes w d sb n i qv av h1 h.n4 hi)
  have H := Lib.hid h
  have HV := Lib.hid h.vd
  have HM := Lib.hid (And.intro h1 (And.intro h2 h3))
  have h4k := h.n4
  clear h h1 h2 h3 h4 h5 h6 ho
  go_enter Tryz.func32, Tryz.ntmps32
  go_wp2_with fail
  refine HA.out.mono ?_
  rintro e w1 ⟨rfl, hb⟩
  have HB := Lib.hid hb
  have HD1 := Lib.hid (HM.out.1.keep (hb.alloc hb.size (.cells #[.int .i64 ((i : Int) * 64), .int .i64 (((i : Int) + 1) * 64)] 86)))
  clear hb HA
  obtain ⟨hd1, c0, c1, c2, c3, _⟩ := HD1.out.cells
  have hd1' : d < w1.heap.size := by have := HB.out.size; have := H.out.lt d H.out.fd; omega
  have HBW := Lib.hid (HB.out.alloc HB.out.size (.cells #[.int .i64 ((i : Int) * 64), .int .i64 (((i : Int) + 1) * 64)] 86))
  have HH := Lib.hid (heap_alloc_new w1 (.cells #[.int .i64 ((i : Int) * 64), .int .i64 (((i : Int) + 1) * 64)] 86))
  obtain ⟨a, c, rfl, hc, hq⟩ := queue_form HM.out.2.2 HM.out.2.1
  have HQ := Lib.hid (hq.below HBW.out)
  have HS := Lib.hid ((HBW.out.block _ (heap_lt HM.out.2.1)).trans HM.out.2.1)
  have hz1 : w.heap.size ≤ w1.heap.size := HB.out.size
  clear HB HM hq
  go_wp2_with fail
  generalize hw2 : w1.alloc (.cells #[.int .i64 ((i : Int) * 64), .int .i64 (((i : Int) + 1) * 64)] 86) = w2 at *
  clear hw2
  have s0 : w2.cell? ⟨w1.heap.size, 0, none⟩ = some (.int .i64 ((i : Int) * 64)) := cell_at HH.out rfl
  have s1 : w2.cell? ⟨w1.heap.size, 1, none⟩ = some (.int .i64 (((i : Int) + 1) * 64)) := cell_at HH.out rfl
  have hs2 : w1.heap.size < w2.heap.size := heap_lt HH.out
  obtain ⟨wo, rfl⟩ : ∃ wo : World, wo = w2 := ⟨_, rfl⟩
  go_loopw [8] (fun j wr => ∃ m : Int, -1 ≤ m ∧ m < D.pend.length ∧ j = .int .i64 m ∧ Hid (NoW D i (m + 1).toNat) ∧ Hid (∃ q, wr = wo.drewN q)) (fun j _ => (intOf j + 1).toNat)
  case atStart => exact ⟨(D.pend.length : Int) - 1, by omega, by omega, rfl, Lib.hid (fun m hm hk => by omega), Lib.hid ⟨0, rfl⟩⟩
  case round =>
    obtain ⟨m, hm1, hm2, rfl, HN, HW⟩ := hrel
    obtain ⟨q, rfl⟩ := HW.out
    clear HW
    by_cases hz : 0 ≤ m
    · obtain ⟨k, rfl⟩ : ∃ k : Nat, m = k := ⟨m.toNat, by omega⟩
      have hk : k < D.pend.length := by omega
      obtain ⟨qb, cs, rfl, hqs, hh, q0, q1, q2⟩ := HQ.out k hk
      have r0 := cell_at hh q0
      have r2 := cell_at hh q2
      have hk0 : (0 : Int) ≤ (k : Int) := Int.natCast_nonneg _
      have hk1 : (k : Int) < (D.pend.length : Int) := by omega
      clear hh q0 q1 q2 hz hm1 hm2
      by_cases he : D.pend[k].1 = i
      · have HR := Lib.hid (rd_hit HV.out hk he (fun m hm hkm => HN.out m hm (by omega)))
        have b0 : ((D.pend[k].1 : Int) * 64 == (i : Int) * 64) = true := by rw [beq_iff_eq]; omega
        clear he
        go_wp2_with fail
        go_quiet (fail)
        go_wp2_with fail
        go_ret2
        rw [HR.out]
        exact ⟨rfl, HBW.out.trans ((Gr.drewN wo _).below.mono HBW.out.size)⟩
      · have HN2 : Hid (NoW D i k) := Lib.hid (fun m hm hkm => by
          by_cases e : m = k
          · subst e; exact he
          · exact HN.out m hm (by omega))
        have b0 : ((D.pend[k].1 : Int) * 64 == (i : Int) * 64) = false := by rw [beq_eq_false_iff_ne]; omega
        clear he
        go_wp2_with fail
        go_quiet (fail)
        go_wp2_with fail
        go_roundw
        case rel => exact ⟨(k : Int) - 1, by omega, by omega, rfl, by simpa using HN2, Lib.hid ⟨_, rfl⟩⟩
        case measure => simp [intOf]
    · obtain rfl : m = -1 := by omega
      have HR := Lib.hid (rd_miss (fun m hm => HN.out m hm (by omega)))
      have hl64 := HV.out.sec.at hi
      have hi1 : (0 : Int) ≤ (i : Int) * 64 := by omega
      have hi2 : (i : Int) * 64 ≤ max (((i : Int) + 1) * 64) 0 := by omega
      have hi3 : ((i : Int) + 1) * 64 ≤ 64 * (n : Int) := by omega
      have hi4 : (0 : Int) ≤ ((i : Int) + 1) * 64 := by omega
      have t1 : ((i : Int) * 64).toNat = 64 * i := by omega
      have t2 : (((i : Int) + 1) * 64).toNat = 64 * i + 64 := by omega
      have hi5 : (i : Int) * 64 ≤ 64 * (i : Int) + 64 := by omega
      have hne : ¬ 64 * n = 64 * i := by omega
      have kc : ∀ (W : World), W.heap = wo.heap → (convert 56 9 (.slice (some ⟨sb, 64 * i, none⟩) 64 (64 * n - 64 * i))).run Tryz.prog W = .ok (.string ⟨(D.ss.getD i []).toArray⟩) W := fun W hW => by
        have k := run_convert_bytes_back (P := Tryz.prog) W 56 9 5 ⟨sb, 64 * i, none⟩ (64 * n - 64 * i) (D.ss.getD i []) Tryz.underlying56 Tryz.underlying5 Tryz.underlying9 (fun j hj => by
          have hadd : (⟨sb, 64 * i, none⟩ : Addr).add j = ⟨sb, 64 * i + j, none⟩ := by unfold Addr.add; split <;> simp_all
          rw [hadd]
          refine cell_at (hW ▸ HS.out) ?_
          have := flat_get HV.out.sec hi j hj
          unfold bytesV
          rw [List.getElem?_toArray, List.getElem?_map, this]; rfl)
        rw [hl64] at k
        exact k
      have kd := fun q => kc (wo.drewN q) rfl
      clear kc hl64
      go_wp2_with fail
      go_quiet (fail)
      go_wp2_with fail
      go_ret2
      rw [HR.out]
      exact ⟨rfl, HBW.out.trans (((Gr.drewN wo _).trans (Gr.drewN _ _)).below.mono HBW.out.size)⟩
end Go.Proofs.YtihoomlaggihlaaGreatDoor
