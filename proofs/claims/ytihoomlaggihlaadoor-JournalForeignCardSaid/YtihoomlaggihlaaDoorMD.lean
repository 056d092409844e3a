/- The law Foreign, walked. Under the condition that the tables lie in memory as the program lays them. -/
import Derived.Test.YtihoomlaggihlaaDoorLJ
namespace Go.Proofs.YtihoomlaggihlaaDoor
open Go.RowKit

set_option maxHeartbeats 4000000 in
set_option maxRecDepth 100000 in
theorem zeros_n (w : World) (n : Nat) (h1 : 1 ≤ n) (h2 : n ≤ 100000) :
    Calls Tryd.prog 47 #[.int .i64 n] w fun e w' => e = .returned (.string ⟨(List.replicate n (0 : UInt8)).toArray⟩) ∧ Below w.heap.size w w' := by
  obtain ⟨i5, hi5, ha5, hb5, hc5⟩ := info_parts info5
  have g1 : (1 : Int) ≤ (n : Int) := by omega
  have g2 : (n : Int) ≤ 100000 := by omega
  have HC := Lib.hid hc5
  go_enter Tryd.func47, Tryd.ntmps47
  go_wp2_with (at_make; refine wpList_make_full _ rfl _ _ 51 rfl 0 5 i5 _ 1 Tryd.underlying51 hi5 ha5 hb5 .i64 .i64 _ _ n rfl rfl (by omega) (by omega) (by rw [HC.out]; omega) (by unfold maxLen; omega) (by omega) ?_; intro w1 ho1 hg1)
  have hb1 : Below w.heap.size w w1 := ⟨hg1.os, hg1.tape, hg1.output, hg1.size, fun k hk => hg1.block k hk (by simp)⟩
  have HB := Lib.hid hb1
  have e1 : (madeCells (Value.int IntKind.u8 0).cells (n * 1)).toList = bytesV (List.replicate n (0 : UInt8)) := by
    show (madeCells #[Value.int IntKind.u8 0] (n * 1)).toList = _
    rw [toList_madeCells_one, Nat.mul_one]
    simp [bytesV]
  have hs1 : w1.heap[w.heap.size]? = some (.cells (bytesV (List.replicate n (0 : UInt8))).toArray 5 (0, 0)) := by
    rcases ho1.2 with ⟨h, _⟩ | ⟨g, cap, cur, hv, _, hg, hc, _, hz, ht⟩
    · cases h
    · cases hv
      rw [hg]
      have : cur.toList = bytesV (List.replicate n (0 : UInt8)) := by
        rw [← e1, ← ht, List.take_of_length_le (by rw [Array.length_toList, hz]; exact Nat.le_refl _)]
      rw [← this]
  have kc := run_convert_bytes_back (P := Tryd.prog) w1 51 9 5 ⟨w.heap.size, 0, none⟩ n (List.replicate n (0 : UInt8)) Tryd.underlying51 Tryd.underlying5 Tryd.underlying9 (fun j hj => by
    have hadd : (⟨w.heap.size, 0, none⟩ : Addr).add j = ⟨w.heap.size, j, none⟩ := by unfold Addr.add; split <;> simp_all
    rw [hadd]
    refine cell_at hs1 ?_
    rw [List.getElem?_toArray]
    simp only [List.length_replicate] at hj
    simp [bytesV, hj])
  rw [List.length_replicate] at kc
  clear e1 hs1
  generalize hz : List.replicate n (0 : UInt8) = z at kc
  have HZ := Lib.hid hz
  clear hz
  clear ho1 hg1 hb1
  rw [kc]
  simp only [Result.andThen, Oper.upon]
  go_wp2_with fail
  go_ret
  exact ⟨by rw [HZ.out]; rfl, HB.out⟩
theorem zeros_64 (w : World) : Calls Tryd.prog 47 #[.int .i64 64] w fun e w' => e = .returned (.string ⟨zeroT.toArray⟩) ∧ Below w.heap.size w w' :=
  zeros_n w 64 (by decide) (by decide)
set_option maxHeartbeats 4000000 in
set_option maxRecDepth 100000 in
theorem refzero_any (w : World) : Calls Tryd.prog 20 #[] w fun e w' => e = .returned (.string ⟨zeroT.toArray⟩) ∧ Below w.heap.size w w' := by
  go_enter Tryd.func20, Tryd.ntmps20
  go_wp2_with fail
  refine (zeros_64 w).mono ?_
  rintro e w1 ⟨rfl, hb⟩
  have HB := Lib.hid hb
  clear hb
  go_wp2_with fail
  go_ret
  exact ⟨rfl, HB.out⟩
theorem textP_count : ∀ l : List (List UInt8), l.length ≤ (textP l).length
  | [] => Nat.zero_le _
  | r :: l => by
    have := textP_count l
    rw [textP_cons]
    simp only [List.length_append, List.length_cons]
    omega
theorem flat_le : ∀ ts : List (List UInt8), (∀ i (h : i < ts.length), ts[i].length ≤ 46) → ts.flatten.length ≤ 46 * ts.length
  | [], _ => Nat.zero_le _
  | t :: ts, h => by
    have i := flat_le ts (fun i hi => h (i + 1) (by simp; omega))
    have h0 := h 0 (by simp)
    simp only [List.getElem_cons_zero] at h0
    rw [List.flatten_cons, List.length_append, List.length_cons]
    omega
theorem opn_few {n c : Nat} {S recs : List (List UInt8)} (h : Opn n S c recs) : recs.length ≤ 46 * c := by
  obtain ⟨ts, h1, h2, h3⟩ := h.body
  have := textP_count recs
  have k := flat_le ts (fun i hi => (h2 i hi).2.1)
  rw [h3] at k
  omega
def AppW (w0 : World) (F G : Nat → Prop) (d jb n c : Nat) (S : List (List UInt8)) (p : List (Nat × List UInt8)) (recs xs : List (List UInt8)) (k : Nat) (w : World) (e : Ending) (w' : World) : Prop :=
  ∃ F' G', Stp (fun k => F k ∨ G k) w (fun k => F' k ∨ G' k) w' ∧
    ((n - 2 - c < k ∧ e = .returned (.int .i64 22) ∧ VS w0 F' G' d jb n c S p recs w') ∨
     (k ≤ n - 2 - c ∧ e = .returned (.int .i64 0) ∧ ∃ c' S' p', VS w0 F' G' d jb n c' S' p' (recs ++ xs) w'))
theorem own_empty (w : World) (B : Nat) (hB : B ≤ w.heap.size) : (w.alloc (.cells #[] 9)).ownsRow B 9 1 (.slice (some ⟨w.heap.size, 0, none⟩) 0 0) 0 (strs []) :=
  ⟨rfl, Or.inr ⟨w.heap.size, 0, #[], rfl, hB, heap_alloc_new w _, Nat.le_refl _, by unfold maxLen; omega, rfl, rfl⟩⟩
set_option maxHeartbeats 16000000 in
set_option maxRecDepth 100000 in
theorem foreign_walk (w : World) (v : Value) (l : List (List UInt8)) (hL : Laid w) (hR : SR w (fun _ => False) v l) : Calls Tryd.prog 6 #[v] w (Yes w) := by
  obtain ⟨A, cp, rfl, hcp, hcs⟩ := hR
  have HL := Lib.hid hL
  have HCS := Lib.hid hcs
  clear hL hcs
  go_enter Tryd.func6, Tryd.ntmps6
  go_wp2_with fail
  refine (head_walk w HL.out).mono ?_
  rintro e w1 ⟨rfl, hb⟩
  have B := Lib.hid hb
  clear hb
  by_cases h3 : l.length < 3
  · have h3i : (l.length : Int) < 3 := by omega
    go_wp2_with fail
    go_ret
    exact ⟨rfl, B.out⟩
  have h3i : ¬ (l.length : Int) < 3 := by omega
  by_cases h40 : 40 < l.length
  · have h4i : (40 : Int) < (l.length : Int) := by omega
    go_wp2_with fail
    go_ret
    exact ⟨rfl, B.out⟩
  have h4i : ¬ (40 : Int) < (l.length : Int) := by omega
  have HC := Lib.hid (ds_new w w1 l.length (by omega) (by omega) B.out HL.out)
  clear B
  go_wp2_with fail
  refine HC.out.mono ?_
  rintro e w2 ⟨d, F0, rfl, hd, _, _⟩
  have D0 := Lib.hid hd
  clear hd HC
  go_wp2_with fail
  go_loopw [5] (fun i wr => ∃ (k : Nat) (F : Nat → Prop) (p : List (Nat × List UInt8)), k ≤ l.length ∧ i = .int .i64 k ∧ p.length = k ∧ Hid (DS w F d l.length ⟨List.replicate l.length zeroT, p, false, none⟩ wr)) (fun i _ => l.length - (intOf i).toNat)
  case atStart => exact ⟨0, F0, [], by omega, rfl, rfl, D0⟩
  case round =>
    clear D0
    obtain ⟨k, F, p, hk, rfl, hp, D⟩ := hrel
    have hk0 : (0 : Int) ≤ (k : Int) := Int.natCast_nonneg _
    by_cases hlt : k < l.length
    · have hk1 : (k : Int) < (l.length : Int) := by omega
      obtain ⟨b, o, rfl, _, c0⟩ := HCS.out k hlt
      have c1 : wr.cell? ⟨b, o + k, none⟩ = some (.string ⟨l[k].toArray⟩) := (D.out.bel.cell (p := ⟨b, o + k, none⟩) (cell_lt c0)).trans c0
      clear c0
      generalize l[k] = x at c1
      by_cases hx : 100 < x.length
      · have hx1 : (100 : Int) < (x.length : Int) := by omega
        go_wp2_with fail
        go_ret
        exact ⟨rfl, D.out.bel⟩
      have hx1 : ¬ (100 : Int) < (x.length : Int) := by omega
      have hmix : Tryd.prog.follows Departure.mixedOrders = true := by decide
      have c2 := fun dd os => cell_regrown c1 dd os
      have hcc : ¬ 9223372036854775807 < x.length + zeroT.length := by rw [zeroT_len]; omega
      go_wp2_with fail
      refine wp_region_quiet_below (by assumption) (by kernel_rfl) ?_
      repeat (first | go_big_quiet_skip | quiet_step ((go_at_call 20; exact Calls.regrown_of (refzero_any _))))
      refine wpQuiet_nil ?_
      intro w9 hw9
      obtain ⟨pp, rfl⟩ := hw9
      replace D := Lib.hid (D.out.below (below_regrown wr pp.d pp.os))
      generalize Sort.grow (redrawn wr pp.d) pp.os = w9 at *
      clear c1 c2 hcc
      have hy : 64 ≤ (x ++ zeroT).length := by rw [List.length_append, zeroT_len]; omega
      rw [show ((⟨x.toArray⟩ : ByteArray) ++ ⟨zeroT.toArray⟩) = ⟨(x ++ zeroT).toArray⟩ by apply ByteArray.ext; simp [ByteArray.data_append]]
      generalize x ++ zeroT = y at *
      have hy1 : (64 : Int) ≤ (y.length : Int) := by omega
      have ht : (y.take 64).length = 64 := by rw [List.length_take]; omega
      have HC := Lib.hid (ds_write w w9 F d l.length _ p k (y.take 64) D.out (by omega) ht (by omega))
      have ex := extract_take y 64
      go_wp2_with fail
      refine HC.out.mono ?_
      rintro e w10 ⟨rfl, F1, hd, _⟩
      have D1 := Lib.hid hd
      clear hd HC D ex
      go_wp2_with fail
      go_roundw
      case rel => exact ⟨k + 1, F1, p ++ [(k, y.take 64)], by omega, by go_num, by simp [hp], D1⟩
      case measure => simp [intOf]; omega
    · obtain rfl : k = l.length := by omega
      have HC := Lib.hid (vs_open w wr F d l.length _ p D.out (by omega) (by omega))
      clear D
      go_wp2_with fail
      refine HC.out.mono ?_
      rintro e w11 (⟨_, rfl, hb, hd⟩ | ⟨c, recs, hop, jb, gv, F1, G1, S1, p1, rfl, hv, _, _, hr⟩)
      · have B := Lib.hid hd.bel
        clear hd hb HC
        go_wp2_with fail
        go_ret
        exact ⟨rfl, B.out⟩
      have V := Lib.hid hv
      have R := Lib.hid hr
      clear hv hr hop HC
      have HC := Lib.hid (room_any w11 G1 jb d l.length c recs false V.out.jat (by omega))
      go_wp2_with fail
      refine HC.out.mono ?_
      rintro e w12 ⟨rfl, hb⟩
      replace V := Lib.hid (V.out.below hb)
      replace R := Lib.hid (R.out.stp (Stp.below hb))
      clear hb HC
      have hrl : recs.length ≤ 46 * c := opn_few V.out.good.opn
      have hcl := V.out.jat.le
      have A1 : Below w12.heap.size w12 (w12.alloc (.cells (strs [[120]]).toArray 9)) := (Below.refl _ _).alloc (Nat.le_refl _) _
      have HC := Lib.hid (vs_append w _ F1 G1 d jb l.length c S1 p1 recs [[120]] _ (V.out.below A1) (by omega) (SR.lit [[120]] V.out.lt) (by simp) (by decide) (by simp) (by simp) (by rw [textP_a]; simp) (by simp; omega))
      replace R := Lib.hid (R.out.stp (Stp.below A1))
      clear A1
      rw [show (AppV w F1 G1 d jb l.length c S1 p1 recs [[120]]) = AppW w F1 G1 d jb l.length c S1 p1 recs [[120]] 1 by unfold AppV AppW; rw [pieces_a]] at HC
      change Hid (Calls Tryd.prog 18 #[.pointer (some ⟨jb, 0, none⟩), .slice (some ⟨w12.heap.size, 0, none⟩) 1 1] (w12.alloc (.cells #[.string ⟨#[120]⟩] 9)) _) at HC
      go_wp2_with fail
      refine HC.out.mono ?_
      rintro e w13 ⟨F2, G2, hs, ⟨hro, rfl, hv⟩ | ⟨hro, rfl, c', S2, p2, hv⟩⟩
      · have e0 : l.length - 2 - c = 0 := by omega
        have V2 := Lib.hid hv
        replace R := Lib.hid (R.out.stp hs)
        clear hs hv hro HC V
        have HC := Lib.hid (vs_open w w13 F2 d l.length S1 p1 V2.out.ds (by omega) V2.out.few)
        go_wp2_with fail
        refine HC.out.mono ?_
        rintro e w14 (⟨hno, _⟩ | ⟨c2, recs2, hop, kb, hv, F3, G3, S3, p3, rfl, hV, hs, _, hr⟩)
        · exact absurd ⟨_, _, V2.out.good.opn⟩ hno
        obtain ⟨rfl, rfl⟩ := hop.same V2.out.good.opn
        replace R := Lib.hid ((R.out.weak (Y := F2) fun _ _ h => Or.inl h).stp hs)
        have R2 := Lib.hid (hr.weak (Y := F3) fun _ _ h => Or.inl h)
        have B := Lib.hid hV.ds.bel
        clear hV hs hr hop V2 HC
        rw [e0] at *
        have HC := Lib.hid (same_yes w14 gv hv _ R.out.sr R2.out.sr (by omega))
        go_wp2_with fail
        refine HC.out.mono ?_
        rintro e w15 ⟨rfl, hb⟩
        replace B := Lib.hid (B.out.trans (hb.mono B.out.size))
        clear hb HC
        go_wp2_with fail
        go_ret
        exact ⟨rfl, B.out⟩
      · have e0 : (0 : Int) < ((l.length - 2 - c : Nat) : Int) := by omega
        have V2 := Lib.hid hv
        replace R := Lib.hid (R.out.stp hs)
        clear hs hv hro HC V
        have Z13 := V2.out.ds.bel.size
        have L13 := Lib.hid V2.out.ds.dat.lt
        have OE := Lib.hid (own_empty w13 w13.heap.size (Nat.le_refl _))
        have A0 : Below w13.heap.size w13 (w13.alloc (.cells #[] 9)) := (Below.refl _ _).alloc (Nat.le_refl _) _
        have HA0 := Lib.hid A0
        have RS0 := Lib.hid (R.out.stp (Stp.below A0)).sr
        clear A0
        go_wp2_with (at_builtin; refine wpList_append_strs rfl (.tmp 78) (.tmp 79) rfl w13.heap.size 0 _ [] recs _ gv rfl rfl OE.out RS0.out (by omega) (by simp) ?_)
        intro v1 w14 o1 g1 n1
        have OE1 : Hid (w14.ownsRow w13.heap.size 9 1 v1 recs.length (strs recs)) := Lib.hid (by simpa using o1)
        have B14 := Lib.hid (HA0.out.grown g1 HA0.out.size (fun x hx => (OE.out.lt x hx).1))
        clear o1 g1 n1 OE RS0 HA0
        have A1 : Hid (Below w13.heap.size w13 (w14.alloc (.cells #[.string ⟨#[120]⟩] 9))) := Lib.hid (B14.out.alloc B14.out.size _)
        have OE2 : Hid ((w14.alloc (.cells #[.string ⟨#[120]⟩] 9)).ownsRow w13.heap.size 9 1 v1 recs.length (strs recs)) := Lib.hid (own_below OE1.out ((Below.refl w14.heap.size w14).alloc (Nat.le_refl _) _))
        have SL : Hid (SR (w14.alloc (.cells #[.string ⟨#[120]⟩] 9)) (fun _ => False) (.slice (some ⟨w14.heap.size, 0, none⟩) 1 1) [[120]]) := Lib.hid (SR.lit (w := w14) (X := fun _ => False) [[120]] (fun x e => e.elim))
        refine wpList_plain rfl fun K hK => ?_
        go_simp
        refine hK _ _ ?_
        clear hK K
        refine wpList_append_strs rfl (.tmp 80) (.tmp 81) rfl w13.heap.size recs.length v1 recs [[120]] (fun _ => False) _ rfl rfl OE2.out SL.out (by simp; omega) A1.out.size ?_
        intro v2 w16 o2 g2 n2
        have B16 := Lib.hid (A1.out.grown g2 A1.out.size (fun x hx => (OE1.out.lt x hx).1))
        replace V2 := Lib.hid (V2.out.below B16.out)
        have R1 : Hid (RS w F2 v2 (recs ++ [[120]]) w16) := Lib.hid ⟨own_from (by simpa using o2) Z13, fun x hx e => by have := (o2.lt x hx).1; have := L13.out x e; omega⟩
        clear o2 g2 n2 OE1 OE2 SL A1 B14 B16 R L13
        have HC := Lib.hid (vs_open w w16 F2 d l.length S2 p2 V2.out.ds (by omega) V2.out.few)
        go_wp2_with fail
        refine HC.out.mono ?_
        rintro e w17 (⟨hno, _⟩ | ⟨c2, recs2, hop, kb, hv, F3, G3, S3, p3, rfl, hV, hs, _, hr⟩)
        · exact absurd ⟨_, _, V2.out.good.opn⟩ hno
        obtain ⟨rfl, rfl⟩ := hop.same V2.out.good.opn
        replace R1 := Lib.hid (R1.out.stp hs)
        have R2 := Lib.hid (hr.weak (Y := F3) fun _ _ h => Or.inl h)
        have B := Lib.hid hV.ds.bel
        clear hV hs hr hop V2 HC
        have HC := Lib.hid (same_yes w17 v2 hv _ R1.out.sr R2.out.sr (by simp; omega))
        go_wp2_with fail
        refine HC.out.mono ?_
        rintro e w18 ⟨rfl, hb⟩
        replace B := Lib.hid (B.out.trans (hb.mono B.out.size))
        clear hb HC
        go_wp2_with fail
        go_ret
        exact ⟨rfl, B.out⟩
end Go.Proofs.YtihoomlaggihlaaDoor
