/- The first loop of Settle: the orders that count. Under no condition but sizes. -/
import Derived.Test.YtngbkdnkpolbfaaDoorFI
import Derived.Test.YtngbkdnkpolbfaaDoorFJ
import Derived.Test.YtngbkdnkpolbfaaDoorDT
import Derived.Deep.DeepCutAuto
import Derived.Deep.RegionHeld3
import Derived.Deep.AppendLies
namespace Go.Proofs.YtngbkdnkpolbfaaDoor
open Go.RowKit Go.Maps

/-- an order of a person on a day -/
def actB (pn : ByteArray) (day : Int) (o : Ord) : Bool := decide (o.pn = pn) && cov (o.pf, o.pu) day
/-- the orders that count, as a map's elements -/
def cmap (f : ByteArray → Option Ord) (x : ByteArray) : Option Value := (f x).map fun o => .agg (encO o)
/-- the orders that count -/
abbrev cntO (pn : ByteArray) (day : Int) (l : List Ord) : ByteArray → Option Ord := cnt Ord.fr nwB (actB pn day) l
theorem zero26 (w : World) : (zeroValue 26).run Tryd.prog w = .ok (.agg (encO zeroO)) w := by kernel_rfl
theorem zero3 (w : World) : (zeroValue 3).run Tryd.prog w = .ok (.int .i64 0) w := by kernel_rfl
/-- what holds at the head of a round of the first loop -/
def CRel (pn : ByteArray) (day : Int) (l : List Ord) (w2 : World) (k : Nat) (wr : World) : Prop := MapIs wr w2.heap.size k (cmap (cntO pn day (l.take k))) ∧ Below w2.heap.size w2 wr
theorem step_no1 {pn : ByteArray} {day : Int} {F : ByteArray → Option Ord} {o : Ord} (h : actB pn day o = false) : cntStep Ord.fr nwB (actB pn day) F o = F := by
  unfold cntStep; simp [h]
theorem step_no2 {pn : ByteArray} {day : Int} {F : ByteArray → Option Ord} {o old : Ord} (h : F o.fr = some old) (hn : nwB o old = false) : cntStep Ord.fr nwB (actB pn day) F o = F := by
  unfold cntStep; simp [h, hn]
theorem cmap_put {F : ByteArray → Option Ord} {o : Ord} : cmap (fun x => if x = o.fr then some o else F x) = fun x => if x = o.fr then some (.agg (encO o)) else cmap F x := by
  funext x
  unfold cmap
  by_cases e : x = o.fr
  · simp [e]
  · simp [e]
theorem step_yes1 {pn : ByteArray} {day : Int} {F : ByteArray → Option Ord} {o : Ord} (ha : actB pn day o = true) (h : F o.fr = none) : cmap (cntStep Ord.fr nwB (actB pn day) F o) = fun x => if x = o.fr then some (.agg (encO o)) else cmap F x := by
  rw [← cmap_put]; unfold cntStep; simp [h, ha]
theorem step_yes2 {pn : ByteArray} {day : Int} {F : ByteArray → Option Ord} {o old : Ord} (ha : actB pn day o = true) (h : F o.fr = some old) (hn : nwB o old = true) : cmap (cntStep Ord.fr nwB (actB pn day) F o) = fun x => if x = o.fr then some (.agg (encO o)) else cmap F x := by
  rw [← cmap_put]; unfold cntStep; simp [h, ha, hn]
theorem act_no {pn : ByteArray} {day : Int} {o : Ord} (h : cov (o.pf, o.pu) day = false) : actB pn day o = false := by unfold actB; rw [h, Bool.and_false]
theorem act_non {pn : ByteArray} {day : Int} {o : Ord} (h : ¬ o.pn = pn) : actB pn day o = false := by unfold actB; rw [decide_eq_false h, Bool.false_and]
theorem act_yes {pn : ByteArray} {day : Int} {o : Ord} (h : cov (o.pf, o.pu) day = true) (h' : o.pn = pn) : actB pn day o = true := by unfold actB; rw [h, decide_eq_true h']; rfl
theorem MapIs.mono' {w : World} {b n m : Nat} {f : ByteArray → Option Value} (h : MapIs w b n f) (hn : n ≤ m) : MapIs w b m f := by
  obtain ⟨D, h1, h2⟩ := h; exact ⟨D, h1.mono hn, h2⟩
theorem covers_at {f u d : Int} {b : Bool} (h : cov (f, u) d = b) (w : World) : Calls Tryd.prog 22 #[.agg #[.int .i64 f, .int .i64 u], .int .i64 d] w fun e w' => e = .returned (.bool b) ∧ Gr w w' := by
  rw [← h]; exact covers_any f u d w
theorem newer_at {a b : Ord} {r : Bool} (h : nwB a b = r) (w : World) : Calls Tryd.prog 28 #[.agg (encO a), .agg (encO b)] w fun e w' => e = .returned (.bool r) ∧ Gr w w' := by
  rw [← h]; exact newer_any a b w
theorem info26 : (Tryd.prog.info? 26).map (fun i => (i.zero, i.size, i.bytes)) = some (some (.agg (encO zeroO)), 6, 80) := by kernel_rfl
theorem info9 : (Tryd.prog.info? 9).map (fun i => (i.zero, i.size, i.bytes)) = some (some (.string ⟨#[]⟩), 1, 16) := by kernel_rfl
theorem nodup_of_map {l : List Ord} (h : (l.map Ord.fr).Nodup) : l.Nodup := by
  induction l with
  | nil => exact List.nodup_nil
  | cons o l ih =>
    rw [List.map_cons, List.nodup_cons] at h
    exact List.nodup_cons.2 ⟨fun hm => h.1 (List.mem_map_of_mem hm), ih h.2⟩
/-- what holds at the head of a round of the second loop -/
def SRel (w : World) (C : ByteArray → Option Ord) (door : ByteArray) (N mc mp : Nat) (way : List Ord) (v18 v19 : Value) (wr : World) : Prop :=
  Chain Ord.to C door way ∧ (way.map Ord.fr).Nodup ∧ wr.ownsRow w.heap.size 26 6 v18 way.length (flatO way) ∧ wr.ownsRow w.heap.size 9 1 v19 way.length (strs (ids way)) ∧
  MapIs wr mp way.length (plc way) ∧ MapIs wr mc N (cmap C) ∧ Below w.heap.size w wr
theorem great_at {n : Nat} (b off c : Nat) (p : Ord) (l : List Ord) (w : World) (hb : b < w.heap.size) (hr : ∀ j (h : j < (p :: l).length), At6 w b (off + j * 6) (p :: l)[j]) (hl : l.length ≤ 1000) (hc : l.length + 1 ≤ c) (hn : n = l.length + 1) :
    Calls Tryd.prog 29 #[.slice (some ⟨b, off, none⟩) n c, .func (.func 30) #[] #[]] w fun e w' => e = .returned (.agg (encO (best nwB p l))) ∧ Below w.heap.size w w' := by
  subst hn; exact great_any b off c p l w hb hr hl hc
/-- what Settle leaves -/
def SPost (C : ByteArray → Option Ord) (door : ByteArray) (w : World) (e : Ending) (w' : World) : Prop :=
  ∃ (way : List Ord) (t : ByteArray) (A : Option Addr) (c : Nat), e = .returned (.tuple #[.string t, .slice A (ids way).length c, .int .i64 0]) ∧ Ends Ord.fr Ord.to nwB C door way t ∧ (ids way).length ≤ c ∧ RdS w' A (ids way) ∧ Below w.heap.size w w'
theorem grown_cell {w w' : World} {row : Option Nat} (h : w.grownBy w' row) {b k : Nat} (hb : b < w.heap.size) (hne : some b ≠ row) : w'.cell? ⟨b, k, none⟩ = w.cell? ⟨b, k, none⟩ := by
  have e := h.block b hb hne
  simp [World.cell?, e]
theorem own_len {w : World} {base e size n : Nat} {v : Value} {xs : List Value} (h : w.ownsRow base e size v n xs) : ∃ A c, v = .slice A n c := by
  rcases h.2 with ⟨rfl, h0⟩ | ⟨g, cap, cur, rfl, _⟩
  · exact ⟨none, 0, by rw [h0]⟩
  · exact ⟨_, _, rfl⟩
theorem strs_app (a b : List ByteArray) : strs (a ++ b) = strs a ++ strs b := List.map_append
/-- the length of a slice -/
def lenV : Value → Nat
  | .slice _ n _ => n
  | _ => 0
set_option maxHeartbeats 8000000 in
set_option maxRecDepth 100000 in
theorem settle_yes (A : Option Addr) (c : Nat) (l : List Ord) (pn door : ByteArray) (day : Int) (w : World) (hL : Laid w) (hr : RdO w A l) (hl : l.length ≤ 1000) (hs : ∀ o ∈ l, Small o) (hp : prpL l = true) (h1 : nmB pn = true) (h2 : nmB door = true) (z1 : pn.size ≤ 1000) (z2 : door.size ≤ 1000) (d0 : 0 ≤ day) (d1 : day ≤ 100000) :
    Calls Tryd.prog 12 #[.slice A l.length c, .string pn, .string door, .int .i64 day] w (SPost (cntO pn day l) door w) := by
  have HR := Lib.hid hr
  have HPL := Lib.hid (fun W (h : RdO W A l) => by have := proper_list A c l W h hl hs; rw [hp] at this; exact this)
  have HTX := Lib.hid (text_yes day w hL d0 d1)
  have HS := Lib.hid hs
  have hmm := @run_makeMap Tryd.prog
  clear hL hr hs hp
  generalize (txt day) = tx at *
  go_enter Tryd.func12, Tryd.ntmps12
  go_wp2_with fail
  refine HTX.out.mono ?_
  rintro e w1 ⟨rfl, b1⟩
  have HB1 := Lib.hid b1
  have HP1 := Lib.hid (HPL.out w1 (HR.out.keep b1))
  clear b1 HTX HPL
  go_wp2_with fail
  refine HP1.out.mono ?_
  rintro e w2 ⟨rfl, b2⟩
  have HB2 := Lib.hid (HB1.out.trans (b2.mono HB1.out.size))
  clear b2 HP1
  go_wp2_with fail
  refine (name_at h1 _ z1).mono ?_
  rintro e w' ⟨rfl, rfl⟩
  go_wp2_with fail
  refine (name_at h2 _ z2).mono ?_
  rintro e w' ⟨rfl, rfl⟩
  go_wp2_with fail
  go_loopw [15, 16, 17, 52] (fun _a _b _c iv wr => ∃ k : Nat, k ≤ l.length ∧ iv = .int .i64 k ∧ Hid (CRel pn day l w2 k wr)) (fun _ _ _ i _ => l.length - (intOf i).toNat)
  case atStart => exact ⟨0, by omega, rfl, Lib.hid ⟨MapIs.made w2, (Gr.one w2 _).below⟩⟩
  case round =>
    obtain ⟨k, hk, rfl, HC⟩ := hrel
    by_cases hlt : k < l.length
    · obtain ⟨hmap, hbel⟩ := HC.out
      rcases HR.out with he | ⟨b, off, rfl, hbl, hcell⟩
      · exfalso; rw [he] at hlt; simp at hlt
      have HWR := Lib.hid (HB2.out.trans (hbel.mono HB2.out.size))
      obtain ⟨c0, c1, c2, c3, c4, c5⟩ := (hcell k hlt).below HWR.out hbl
      obtain ⟨q1, q2, q3, q4⟩ := HS.out l[k] (List.getElem_mem hlt)
      have HN := Lib.hid (show cntO pn day (l.take (k + 1)) = cntStep Ord.fr nwB (actB pn day) (cntO pn day (l.take k)) l[k] by unfold cntO; rw [List.take_succ_eq_append_getElem hlt, cnt_snoc])
      have HMP := Lib.hid hmap
      have HBL := Lib.hid hbel
      obtain ⟨o, ho⟩ : ∃ o, l[k] = o := ⟨_, rfl⟩
      rw [ho] at c0 c1 c2 c3 c4 c5 q1 q2 q3 q4 HN
      obtain ⟨F, hFF⟩ : ∃ F, cntO pn day (l.take k) = F := ⟨_, rfl⟩
      rw [hFF] at HN HMP
      have HM1 := Lib.hid (HMP.out.keep (Gr.one wr (.cells (encO o) 26)).below)
      clear ho hFF hmap hbel hcell HC
      cases hF : F o.fr with
    | none =>
      have HLK : Hid ((match cmap F o.fr with | some v => (if true = true then Value.tuple #[v, .bool true] else v) | none => (if true = true then Value.tuple #[.agg (encO zeroO), .bool false] else .agg (encO zeroO))) = .tuple #[.agg (encO zeroO), .bool false]) := Lib.hid (by unfold cmap; rw [hF]; rfl)
      have HGA := Lib.hid ((Gr.one wr (.cells (encO o) 26)).alloc (.cells (encO zeroO) 26))
      by_cases hpn : o.pn = pn
      · have bp : (o.pn.toList == pn.toList) = true := by rw [hpn]; simp
        cases hcv : cov (o.pf, o.pu) day
        · have HSN := Lib.hid (show cmap (cntO pn day (l.take (k + 1))) = cmap F by rw [HN.out, step_no1 (act_no hcv)])
          clear hpn hF HN
          go_wp2_with (at_lookup; refine wpList_look rfl _ _ 50 true rfl 26 Tryd.underlying50 _ (zero26 _) w2.heap.size k (cmap F) rfl HM1.out o.fr rfl (by unfold maxLen; omega) _ HLK.out ?_)
          refine (covers_at hcv _).mono ?_
          rintro e w3 ⟨rfl, hg⟩
          have HG3 := Lib.hid (HGA.out.trans hg)
          have hz3 : wr.heap.size + 1 < w3.heap.size := by have := hg.size; simp at this; omega
          obtain ⟨u0, u1, u2, u3, u4, u5⟩ := (show At6 _ wr.heap.size 0 o from (At6.made wr o 26).below (Gr.one _ (.cells (encO zeroO) 26)).below (by simp)).below hg.below (by first | (simp; done) | (simp; omega))
          obtain ⟨v0, v1, v2, v3, v4, v5⟩ := (show At6 _ (wr.heap.size + 1) 0 zeroO by simpa using At6.made (wr.alloc (.cells (encO o) 26)) zeroO 26).below hg.below (by first | (simp; done) | (simp; omega))
          clear hg
          have HM3 := Lib.hid (HMP.out.keep (HG3.out).below)
          have HB3 := Lib.hid (HBL.out.trans ((HG3.out).below.mono HBL.out.size))
          go_wp2_with fail
          go_roundw
          case rel => exact ⟨k + 1, by omega, by go_num, Lib.hid ⟨by rw [HSN.out]; exact HM3.out.mono' (by omega), HB3.out⟩⟩
          case measure => simp [intOf]; omega
        · have HSN := Lib.hid (show cmap (cntO pn day (l.take (k + 1))) = fun x => if x = o.fr then some (.agg (encO o)) else cmap F x by rw [HN.out, step_yes1 (act_yes hcv hpn) hF])
          clear hpn hF HN
          go_wp2_with (at_lookup; refine wpList_look rfl _ _ 50 true rfl 26 Tryd.underlying50 _ (zero26 _) w2.heap.size k (cmap F) rfl HM1.out o.fr rfl (by unfold maxLen; omega) _ HLK.out ?_)
          refine (covers_at hcv _).mono ?_
          rintro e w3 ⟨rfl, hg⟩
          have HG3 := Lib.hid (HGA.out.trans hg)
          have hz3 : wr.heap.size + 1 < w3.heap.size := by have := hg.size; simp at this; omega
          obtain ⟨u0, u1, u2, u3, u4, u5⟩ := (show At6 _ wr.heap.size 0 o from (At6.made wr o 26).below (Gr.one _ (.cells (encO zeroO) 26)).below (by simp)).below hg.below (by first | (simp; done) | (simp; omega))
          obtain ⟨v0, v1, v2, v3, v4, v5⟩ := (show At6 _ (wr.heap.size + 1) 0 zeroO by simpa using At6.made (wr.alloc (.cells (encO o) 26)) zeroO 26).below hg.below (by first | (simp; done) | (simp; omega))
          clear hg
          have HM3 := Lib.hid (HMP.out.keep (HG3.out).below)
          have HB3 := Lib.hid (HBL.out.trans ((HG3.out).below.mono HBL.out.size))
          go_wp2_with (at_mapUpdate; refine wpList_put rfl _ _ _ 50 rfl 26 Tryd.underlying50 w2.heap.size k (cmap F) rfl HM3.out (by unfold maxLen; omega) o.fr rfl (by unfold maxLen; omega) (.agg (encO o)) rfl ?_; intro w5 hm5 hg5)
          have HM5 : Hid (MapIs w5 w2.heap.size (k + 1) (cmap (cntO pn day (l.take (k + 1))))) := Lib.hid (by rw [HSN.out]; exact hm5)
          have HB5 := Lib.hid (HB3.out.grown hg5 HB3.out.size (fun k' hk' => by injection hk' with hk'; omega))
          clear hm5 hg5
          go_wp2_with fail
          go_roundw
          case rel => exact ⟨k + 1, by omega, by go_num, Lib.hid ⟨HM5.out, HB5.out⟩⟩
          case measure => simp [intOf]; omega
      · have bp : (o.pn.toList == pn.toList) = false := by rw [beq_eq_false_iff_ne, ByteArray.toList_eq, ByteArray.toList_eq]; exact fun e => hpn (ByteArray.ext (Array.toList_inj.1 e))
        have HSN := Lib.hid (show cmap (cntO pn day (l.take (k + 1))) = cmap F by rw [HN.out, step_no1 (act_non hpn)])
        clear hpn hF HN
        have HM3 := Lib.hid (HMP.out.keep (HGA.out).below)
        have HB3 := Lib.hid (HBL.out.trans ((HGA.out).below.mono HBL.out.size))
        go_wp2_with (at_lookup; refine wpList_look rfl _ _ 50 true rfl 26 Tryd.underlying50 _ (zero26 _) w2.heap.size k (cmap F) rfl HM1.out o.fr rfl (by unfold maxLen; omega) _ HLK.out ?_)
        go_wp2_with fail
        go_roundw
        case rel => exact ⟨k + 1, by omega, by go_num, Lib.hid ⟨by rw [HSN.out]; exact HM3.out.mono' (by omega), HB3.out⟩⟩
        case measure => simp [intOf]; omega
    | some old =>
      have HLK : Hid ((match cmap F o.fr with | some v => (if true = true then Value.tuple #[v, .bool true] else v) | none => (if true = true then Value.tuple #[.agg (encO zeroO), .bool false] else .agg (encO zeroO))) = .tuple #[.agg (encO old), .bool true]) := Lib.hid (by unfold cmap; rw [hF]; rfl)
      have HGA := Lib.hid ((Gr.one wr (.cells (encO o) 26)).alloc (.cells (encO old) 26))
      by_cases hpn : o.pn = pn
      · have bp : (o.pn.toList == pn.toList) = true := by rw [hpn]; simp
        cases hcv : cov (o.pf, o.pu) day
        · have HSN := Lib.hid (show cmap (cntO pn day (l.take (k + 1))) = cmap F by rw [HN.out, step_no1 (act_no hcv)])
          clear hpn hF HN
          go_wp2_with (at_lookup; refine wpList_look rfl _ _ 50 true rfl 26 Tryd.underlying50 _ (zero26 _) w2.heap.size k (cmap F) rfl HM1.out o.fr rfl (by unfold maxLen; omega) _ HLK.out ?_)
          refine (covers_at hcv _).mono ?_
          rintro e w3 ⟨rfl, hg⟩
          have HG3 := Lib.hid (HGA.out.trans hg)
          have hz3 : wr.heap.size + 1 < w3.heap.size := by have := hg.size; simp at this; omega
          obtain ⟨u0, u1, u2, u3, u4, u5⟩ := (show At6 _ wr.heap.size 0 o from (At6.made wr o 26).below (Gr.one _ (.cells (encO old) 26)).below (by simp)).below hg.below (by first | (simp; done) | (simp; omega))
          obtain ⟨v0, v1, v2, v3, v4, v5⟩ := (show At6 _ (wr.heap.size + 1) 0 old by simpa using At6.made (wr.alloc (.cells (encO o) 26)) old 26).below hg.below (by first | (simp; done) | (simp; omega))
          clear hg
          have HM3 := Lib.hid (HMP.out.keep (HG3.out).below)
          have HB3 := Lib.hid (HBL.out.trans ((HG3.out).below.mono HBL.out.size))
          go_wp2_with fail
          go_roundw
          case rel => exact ⟨k + 1, by omega, by go_num, Lib.hid ⟨by rw [HSN.out]; exact HM3.out.mono' (by omega), HB3.out⟩⟩
          case measure => simp [intOf]; omega
        · cases hnw : nwB o old
          · have HSN := Lib.hid (show cmap (cntO pn day (l.take (k + 1))) = cmap F by rw [HN.out, step_no2 hF hnw])
            clear hpn hF HN
            go_wp2_with (at_lookup; refine wpList_look rfl _ _ 50 true rfl 26 Tryd.underlying50 _ (zero26 _) w2.heap.size k (cmap F) rfl HM1.out o.fr rfl (by unfold maxLen; omega) _ HLK.out ?_)
            refine (covers_at hcv _).mono ?_
            rintro e w3 ⟨rfl, hg⟩
            have HG3 := Lib.hid (HGA.out.trans hg)
            have hz3 : wr.heap.size + 1 < w3.heap.size := by have := hg.size; simp at this; omega
            obtain ⟨u0, u1, u2, u3, u4, u5⟩ := (show At6 _ wr.heap.size 0 o from (At6.made wr o 26).below (Gr.one _ (.cells (encO old) 26)).below (by simp)).below hg.below (by first | (simp; done) | (simp; omega))
            obtain ⟨v0, v1, v2, v3, v4, v5⟩ := (show At6 _ (wr.heap.size + 1) 0 old by simpa using At6.made (wr.alloc (.cells (encO o) 26)) old 26).below hg.below (by first | (simp; done) | (simp; omega))
            clear hg
            go_wp2_with fail
            refine (newer_at hnw _).mono ?_
            rintro e w4 ⟨rfl, hg⟩
            have HG4 := Lib.hid (HG3.out.trans hg)
            obtain ⟨t0, t1, t2, t3, t4, t5⟩ := (show At6 w3 wr.heap.size 0 o from ⟨u0, u1, u2, u3, u4, u5⟩).below hg.below (by omega)
            clear hg
            have HM3 := Lib.hid (HMP.out.keep (HG4.out).below)
            have HB3 := Lib.hid (HBL.out.trans ((HG4.out).below.mono HBL.out.size))
            go_wp2_with fail
            go_roundw
            case rel => exact ⟨k + 1, by omega, by go_num, Lib.hid ⟨by rw [HSN.out]; exact HM3.out.mono' (by omega), HB3.out⟩⟩
            case measure => simp [intOf]; omega
          · have HSN := Lib.hid (show cmap (cntO pn day (l.take (k + 1))) = fun x => if x = o.fr then some (.agg (encO o)) else cmap F x by rw [HN.out, step_yes2 (act_yes hcv hpn) hF hnw])
            clear hpn hF HN
            go_wp2_with (at_lookup; refine wpList_look rfl _ _ 50 true rfl 26 Tryd.underlying50 _ (zero26 _) w2.heap.size k (cmap F) rfl HM1.out o.fr rfl (by unfold maxLen; omega) _ HLK.out ?_)
            refine (covers_at hcv _).mono ?_
            rintro e w3 ⟨rfl, hg⟩
            have HG3 := Lib.hid (HGA.out.trans hg)
            have hz3 : wr.heap.size + 1 < w3.heap.size := by have := hg.size; simp at this; omega
            obtain ⟨u0, u1, u2, u3, u4, u5⟩ := (show At6 _ wr.heap.size 0 o from (At6.made wr o 26).below (Gr.one _ (.cells (encO old) 26)).below (by simp)).below hg.below (by first | (simp; done) | (simp; omega))
            obtain ⟨v0, v1, v2, v3, v4, v5⟩ := (show At6 _ (wr.heap.size + 1) 0 old by simpa using At6.made (wr.alloc (.cells (encO o) 26)) old 26).below hg.below (by first | (simp; done) | (simp; omega))
            clear hg
            go_wp2_with fail
            refine (newer_at hnw _).mono ?_
            rintro e w4 ⟨rfl, hg⟩
            have HG4 := Lib.hid (HG3.out.trans hg)
            obtain ⟨t0, t1, t2, t3, t4, t5⟩ := (show At6 w3 wr.heap.size 0 o from ⟨u0, u1, u2, u3, u4, u5⟩).below hg.below (by omega)
            clear hg
            have HM3 := Lib.hid (HMP.out.keep (HG4.out).below)
            have HB3 := Lib.hid (HBL.out.trans ((HG4.out).below.mono HBL.out.size))
            go_wp2_with (at_mapUpdate; refine wpList_put rfl _ _ _ 50 rfl 26 Tryd.underlying50 w2.heap.size k (cmap F) rfl HM3.out (by unfold maxLen; omega) o.fr rfl (by unfold maxLen; omega) (.agg (encO o)) rfl ?_; intro w5 hm5 hg5)
            have HM5 : Hid (MapIs w5 w2.heap.size (k + 1) (cmap (cntO pn day (l.take (k + 1))))) := Lib.hid (by rw [HSN.out]; exact hm5)
            have HB5 := Lib.hid (HB3.out.grown hg5 HB3.out.size (fun k' hk' => by injection hk' with hk'; omega))
            clear hm5 hg5
            go_wp2_with fail
            go_roundw
            case rel => exact ⟨k + 1, by omega, by go_num, Lib.hid ⟨HM5.out, HB5.out⟩⟩
            case measure => simp [intOf]; omega
      · have bp : (o.pn.toList == pn.toList) = false := by rw [beq_eq_false_iff_ne, ByteArray.toList_eq, ByteArray.toList_eq]; exact fun e => hpn (ByteArray.ext (Array.toList_inj.1 e))
        have HSN := Lib.hid (show cmap (cntO pn day (l.take (k + 1))) = cmap F by rw [HN.out, step_no1 (act_non hpn)])
        clear hpn hF HN
        have HM3 := Lib.hid (HMP.out.keep (HGA.out).below)
        have HB3 := Lib.hid (HBL.out.trans ((HGA.out).below.mono HBL.out.size))
        go_wp2_with (at_lookup; refine wpList_look rfl _ _ 50 true rfl 26 Tryd.underlying50 _ (zero26 _) w2.heap.size k (cmap F) rfl HM1.out o.fr rfl (by unfold maxLen; omega) _ HLK.out ?_)
        go_wp2_with fail
        go_roundw
        case rel => exact ⟨k + 1, by omega, by go_num, Lib.hid ⟨by rw [HSN.out]; exact HM3.out.mono' (by omega), HB3.out⟩⟩
        case measure => simp [intOf]; omega
    · obtain rfl : k = l.length := by omega
      obtain ⟨hmap, hbel⟩ := HC.out
      rw [List.take_length] at hmap
      have HMC := Lib.hid (hmap.keep (Gr.one wr (.map #[] 0)).below)
      have HMP0 := Lib.hid (MapIs.made wr)
      have HBW := Lib.hid ((HB2.out.trans (hbel.mono HB2.out.size)).trans ((Gr.one wr (.map #[] 0)).below.mono (Nat.le_trans HB2.out.size hbel.size)))
      have hlw : w2.heap.size < wr.heap.size := hmap.lt
      have hwz : w.heap.size ≤ w2.heap.size := HB2.out.size
      clear hmap hbel HC HR HB1 HB2
      obtain ⟨C, hCC⟩ : ∃ C, cntO pn day l = C := ⟨_, rfl⟩
      rw [hCC] at HMC
      have HCS := Lib.hid (show (∀ x o, C x = some o → o ∈ l ∧ o.fr = x) by rw [← hCC]; exact fun x o h => by have := (cnt_spec Ord.fr nwB (actB pn day) so_nw l).2 x o h; exact ⟨this.1, this.2.2.1⟩)
      have HCC := Lib.hid hCC
      have HN1 := Lib.hid (fun (way : List Ord) (h1 : Chain Ord.to C door way) (h2 : (way.map Ord.fr).Nodup) => (show way.length ≤ l.length from nodup_le (nodup_of_map h2) (fun o ho => (HCS.out _ _ (chain_mem Ord.fr Ord.to (fun x o h => (HCS.out x o h).2) h1 o ho)).1)))
      clear hCC
      obtain ⟨wo, hwo⟩ : ∃ wo : World, wo = wr := ⟨_, rfl⟩
      subst hwo
      go_wp2_with fail
      go_loopw [18, 19, 21, 22, 23, 24, 25, 26] (fun v18 v19 v21 _a _b _c _d _e wx => ∃ (way : List Ord) (at' : ByteArray), at'.size ≤ 1000 ∧ v21 = .string at' ∧ Hid (at' = endAt Ord.to door way) ∧ Hid (SRel w C door l.length w2.heap.size wo.heap.size way v18 v19 wx)) (fun v18 _ _ _ _ _ _ _ _ => l.length - lenV v18)
      case atStart => exact ⟨[], door, z2, rfl, Lib.hid rfl, Lib.hid ⟨trivial, List.nodup_nil, ⟨rfl, Or.inl ⟨rfl, rfl⟩⟩, ⟨rfl, Or.inl ⟨rfl, rfl⟩⟩, HMP0.out, HMC.out, HBW.out⟩⟩
      case round =>
        clear HMP0 HMC HBW
        obtain ⟨way, at', hat, rfl, HAT, HSR⟩ := hrel
        obtain ⟨s1, s2, s3, s4, s5, s6, s7⟩ := HSR.out
        have HS1 := Lib.hid s1
        have HS2 := Lib.hid s2
        have HS3 := Lib.hid s3
        have HS4 := Lib.hid s4
        have HS5 := Lib.hid s5
        have HS6 := Lib.hid s6
        have HS7 := Lib.hid s7
        clear s1 s2 s3 s4 s5 s6 s7 HSR
        cases hi : idx at' way with
        | some i =>
          obtain ⟨pre, o, post, hw, hlen, hfr⟩ := idx_some hi
          have hne : way ≠ [] := by rw [hw]; simp
          obtain ⟨_, g, cap, rfl, hcap, hgb, hgl, hat6⟩ := own_at6 HS3.out hne
          have HLK : Hid ((match plc way at' with | some v => (if true = true then Value.tuple #[v, .bool true] else v) | none => (if true = true then Value.tuple #[.int .i64 0, .bool false] else .int .i64 0)) = .tuple #[.int .i64 (i : Int), .bool true]) := Lib.hid (by unfold plc; rw [hi]; rfl)
          have hil : i < way.length := by rw [hw, List.length_append, List.length_cons]; omega
          have HLN := Lib.hid (show way.length - i = post.length + 1 by rw [hw, List.length_append, List.length_cons]; omega)
          have HGR := Lib.hid (fun W (hb : Below wr.heap.size wr W) => great_at (n := way.length - i) g (i * 6) (cap - i) o post W (Nat.lt_of_lt_of_le hgl hb.size) (fun j hj => by
            have h1 := hat6 (i + j) (by rw [hw, List.length_append]; have : j < (o :: post).length := hj; omega)
            have h2 : way[i + j]'(by rw [hw, List.length_append]; have : j < (o :: post).length := hj; omega) = (o :: post)[j] := by
              simp only [hw]; rw [List.getElem_append_right (by omega)]; congr 1; omega
            rw [h2] at h1
            have h3 := h1.below hb hgl
            rwa [show (i + j) * 6 = i * 6 + j * 6 by omega] at h3) (by have := HLN.out; have := HN1.out way HS1.out HS2.out; omega) (by have := HLN.out; omega) HLN.out)
          have HEND := Lib.hid (show Ends Ord.fr Ord.to nwB C door way (best nwB o post).to from ⟨HS1.out, HS2.out, Or.inr ⟨pre, o, post, hw, by rw [← HAT.out, hfr], rfl⟩⟩)
          clear hw hlen hfr hat6 hi hne
          go_wp2_with (at_lookup; refine wpList_look rfl _ _ 52 true rfl 3 Tryd.underlying52 _ (zero3 _) wo.heap.size way.length (plc way) rfl HS5.out at' rfl (by unfold maxLen; omega) _ HLK.out ?_)
          refine (HGR.out wr (Below.refl _ _)).mono ?_
          rintro e w5 ⟨rfl, b5⟩
          obtain ⟨_, A', c', hv19, hc', hrd⟩ := own_strs HS4.out
          have HRD := Lib.hid (hrd.keep (b5.trans ((Gr.one w5 (.cells (encO (best nwB o post)) 26)).below.mono b5.size)))
          have HBE := Lib.hid ((HS7.out.trans (b5.mono HS7.out.size)).trans ((Gr.one w5 (.cells (encO (best nwB o post)) 26)).below.mono (Nat.le_trans HS7.out.size b5.size)))
          subst hv19
          clear b5 hrd HGR
          go_wp2_with fail
          go_ret3
          exact ⟨way, _, A', c', rfl, by rw [HCC.out]; exact HEND.out, hc', HRD.out, HBE.out⟩
        | none =>
          have HIN := Lib.hid (idx_none hi)
          have HLK : Hid ((match plc way at' with | some v => (if true = true then Value.tuple #[v, .bool true] else v) | none => (if true = true then Value.tuple #[.int .i64 0, .bool false] else .int .i64 0)) = .tuple #[.int .i64 0, .bool false]) := Lib.hid (by unfold plc; rw [hi]; rfl)
          clear hi
          cases hc0 : C at' with
          | none =>
            have HLC : Hid ((match cmap C at' with | some v => (if true = true then Value.tuple #[v, .bool true] else v) | none => (if true = true then Value.tuple #[.agg (encO zeroO), .bool false] else .agg (encO zeroO))) = .tuple #[.agg (encO zeroO), .bool false]) := Lib.hid (by unfold cmap; rw [hc0]; rfl)
            have HEND := Lib.hid (show Ends Ord.fr Ord.to nwB C door way at' from ⟨HS1.out, HS2.out, Or.inl ⟨by rw [← HAT.out]; exact hc0, HAT.out⟩⟩)
            obtain ⟨_, A', c', hv19, hc', hrd⟩ := own_strs HS4.out
            have HRD := Lib.hid (hrd.keep (Gr.one wr (.cells (encO zeroO) 26)).below)
            have HBE := Lib.hid (HS7.out.trans ((Gr.one wr (.cells (encO zeroO) 26)).below.mono HS7.out.size))
            subst hv19
            clear hc0 hrd
            go_wp2_with (first | (at_lookup; refine wpList_look rfl _ _ 52 true rfl 3 Tryd.underlying52 _ (zero3 _) wo.heap.size way.length (plc way) rfl HS5.out at' rfl (by unfold maxLen; omega) _ HLK.out ?_) | (at_lookup; refine wpList_look rfl _ _ 50 true rfl 26 Tryd.underlying50 _ (zero26 _) w2.heap.size l.length (cmap C) rfl HS6.out at' rfl (by unfold maxLen; omega) _ HLC.out ?_))
            go_ret3
            exact ⟨way, _, A', c', rfl, by rw [HCC.out]; exact HEND.out, hc', HRD.out, HBE.out⟩
          | some o =>
            have HOC := Lib.hid (HCS.out at' o hc0)
            have HSO := Lib.hid (HS.out o HOC.out.1)
            obtain ⟨q1, q2, q3, q4⟩ := HSO.out
            have HLC : Hid ((match cmap C at' with | some v => (if true = true then Value.tuple #[v, .bool true] else v) | none => (if true = true then Value.tuple #[.agg (encO zeroO), .bool false] else .agg (encO zeroO))) = .tuple #[.agg (encO o), .bool true]) := Lib.hid (by unfold cmap; rw [hc0]; rfl)
            have HCH := Lib.hid (show Chain Ord.to C door (way ++ [o]) from (chain_app Ord.to C door way [o]).2 ⟨HS1.out, by rw [← HAT.out]; exact ⟨hc0, trivial⟩⟩)
            have HND := Lib.hid (show ((way ++ [o]).map Ord.fr).Nodup by
              rw [List.map_append, List.nodup_append]
              refine ⟨HS2.out, by simp, fun a ha b hb e => ?_⟩
              have hb' : b = o.fr := by simpa using hb
              exact HIN.out (by rw [← HOC.out.2, ← hb', ← e]; exact ha))
            have hwl : way.length + 1 ≤ l.length := by have := HN1.out _ HCH.out HND.out; simpa using this
            have HPS := Lib.hid (show plc (way ++ [o]) = fun x => if x = at' then some (.int .i64 (way.length : Int)) else plc way x by rw [plc_snoc (by rw [HOC.out.2]; exact HIN.out), HOC.out.2])
            have HEA := Lib.hid (show o.to = endAt Ord.to door (way ++ [o]) from (endAt_snoc Ord.to _ _ _).symm)
            have H18 := Lib.hid (HS3.out.alloc (.cells (encO o) 26))
            have H19 := Lib.hid (HS4.out.alloc (.cells (encO o) 26))
            have H5 := Lib.hid (HS5.out.keep (Gr.one wr (.cells (encO o) 26)).below)
            have H6 := Lib.hid (HS6.out.keep (Gr.one wr (.cells (encO o) 26)).below)
            have H7 := Lib.hid (HS7.out.trans ((Gr.one wr (.cells (encO o) 26)).below.mono HS7.out.size))
            have HB25 := Lib.hid (Blk6.made wr o 26)
            have hmpl : wo.heap.size < wr.heap.size := HS5.out.lt
            obtain ⟨A18, c18, hv18⟩ := own_len HS3.out
            subst hv18
            clear hc0 HCS HN1
            go_wp2_with (first | (at_lookup; refine wpList_look rfl _ _ 52 true rfl 3 Tryd.underlying52 _ (zero3 _) wo.heap.size way.length (plc way) rfl HS5.out at' rfl (by unfold maxLen; omega) _ HLK.out ?_) | (at_lookup; refine wpList_look rfl _ _ 50 true rfl 26 Tryd.underlying50 _ (zero26 _) w2.heap.size l.length (cmap C) rfl HS6.out at' rfl (by unfold maxLen; omega) _ HLC.out ?_) | (at_mapUpdate; refine wpList_put rfl _ _ _ 52 rfl 3 Tryd.underlying52 wo.heap.size way.length (plc way) rfl H5.out (by unfold maxLen; omega) at' rfl (by unfold maxLen; omega) (.int .i64 (way.length : Int)) rfl ?_; intro w5 hm5 hg5))
            have HM5 : Hid (MapIs w5 wo.heap.size (way.length + 1) (plc (way ++ [o]))) := Lib.hid (by rw [HPS.out]; exact hm5)
            have I : Hid (Inv w o wr.heap.size wo.heap.size (way.length + 1) (plc (way ++ [o])) w2.heap.size l.length (cmap C) (.slice A18 way.length c18) way.length (flatO way) u19 way.length (strs (ids way)) w5) := Lib.hid ⟨H18.out.kept hg5 (Or.inr (own_map_ne H18.out H5.out)), H19.out.kept hg5 (Or.inr (own_map_ne H19.out H5.out)), HM5.out, H6.out.same (hg5.block w2.heap.size H6.out.lt (by simp; omega)), H7.out.grown hg5 H7.out.size (fun k' hk' => by injection hk' with hk'; omega), HB25.out.far hg5 (by simp; omega), (fun e => by have := (HS3.out.lt _ e.symm).2; omega), (fun e => by have := (HS4.out.lt _ e.symm).2; omega)⟩
            have hz5 : wr.heap.size + 1 ≤ w5.heap.size := by have := hg5.size; simpa using this
            have L18 := Lib.hid (fun q (h : (Value.slice A18 way.length c18).ownBlock = some q) => (show q < w5.heap.size by have := (HS3.out.lt q h).2; omega))
            clear hm5 hg5 H18 H19 H5 H6 H7 HB25 HS3 HS4 HS5 HS6 HM5
            obtain ⟨x0, x1, x2, x3, x4, x5⟩ := I.out.2.2.2.2.2.1.2.1
            obtain ⟨i26, hi26, ha26, hb26, hc26⟩ := info_parts info26
            obtain ⟨i9, hi9, ha9, hb9, hc9⟩ := info_parts info9
            go_region_held3 (fun w' => w'.cell? ⟨wr.heap.size, 0, none⟩ = some (.string o.id) ∧ w'.cell? ⟨wr.heap.size, 1, none⟩ = some (.string o.pn) ∧ w'.cell? ⟨wr.heap.size, 2, none⟩ = some (.string o.fr) ∧ w'.cell? ⟨wr.heap.size, 3, none⟩ = some (.string o.to) ∧ w'.cell? ⟨wr.heap.size, 4, none⟩ = some (.int .i64 o.pf) ∧ w'.cell? ⟨wr.heap.size, 5, none⟩ = some (.int .i64 o.pu)) (first | (go_keep; done) | ((try dsimp only); refine ⟨?_, ?_, ?_, ?_, ?_, ?_⟩ <;> (simp [*]; done)))
              (first
                | (refine step_append_lies _ (by rfl) (.tmp 117) (.tmp 119) 22 (by rfl) w.heap.size 26 i26 _ 6 80 Tryd.underlying22 hi26 ha26 hb26 hc26 rfl (by decide) (.slice A18 way.length c18) way.length (flatO way) (by rfl) (by first | exact (I.out.gr ((Gr.drewn _).alloc _)).1 | exact (I.out.gr (((Gr.drewn _).alloc _).alloc _)).1) _ 1 1 (flatO [o]) (by rfl) (by rfl) (by intro j u hu; first | exact news6 hu | exact cell_on (news6 hu) _ | simpa using news6 (w := World.alloc _ _) hu) (by intro u hu; simp [flatO] at hu; rcases hu with h | h | h | h | h | h <;> subst h <;> rfl) (by decide) (by unfold maxLen; omega) (by omega) (by simp; omega) _ rfl ?_; intro g6 cap6 w6 ho6 hg6 hl6 hm6; (have I6 : Hid (Inv w o wr.heap.size wo.heap.size (way.length + 1) (plc (way ++ [o])) w2.heap.size l.length (cmap C) (.slice (some ⟨g6, 0, none⟩) (way.length + 1) cap6) (way.length + 1) (flatO way ++ flatO [o]) u19 way.length (strs (ids way)) w6) := by first | exact Lib.hid ((I.out.gr ((Gr.drewn _).alloc _)).app ho6 hg6 hl6) | exact Lib.hid ((I.out.gr (((Gr.drewn _).alloc _).alloc _)).app ho6 hg6 hl6)); (obtain ⟨y0, y1, y2, y3, y4, y5⟩ := I6.out.2.2.2.2.2.1.2.1); (try (have cB1 : w6.cell? ⟨w5.heap.size + 1, 0, none⟩ = some (.string o.id) := by rw [grown_cell hg6 (by simp) (fun e => by have := L18.out _ e.symm; omega)]; simp)); (try (have cB0 : w6.cell? ⟨w5.heap.size, 0, none⟩ = some (.string o.id) := by rw [grown_cell hg6 (by simp; omega) (fun e => by have := L18.out _ e.symm; omega)]; simp; done)); clear ho6 hg6 hl6 hm6)
                | (refine step_append_lies _ (by rfl) (.tmp 121) (.tmp 124) 30 (by rfl) w.heap.size 9 i9 _ 1 16 Tryd.underlying30 hi9 ha9 hb9 hc9 rfl (by decide) u19 way.length (strs (ids way)) (by rfl) (by first | exact I6.out.2.1 | exact (I6.out.gr (Gr.one _ _)).2.1) _ 1 1 (strs [o.id]) (by rfl) (by rfl) (by intro j u hu; first | exact news1 hu | (match j, hu with | 0, hu => (simp [strs] at hu; subst hu; first | exact cB1 | exact cB0) | j + 1, hu => simp [strs] at hu)) (by intro u hu; simp [strs] at hu; subst hu; rfl) (by decide) (by unfold maxLen; omega) (by omega) (by have := I6.out.2.2.2.2.1.size; simp; omega) _ rfl ?_; intro g7 cap7 w7 ho7 hg7 hl7 hm7; (have I7 : Hid (Inv w o wr.heap.size wo.heap.size (way.length + 1) (plc (way ++ [o])) w2.heap.size l.length (cmap C) (.slice (some ⟨g6, 0, none⟩) (way.length + 1) cap6) (way.length + 1) (flatO way ++ flatO [o]) (.slice (some ⟨g7, 0, none⟩) (way.length + 1) cap7) (way.length + 1) (strs (ids way) ++ strs [o.id]) w7) := by first | exact Lib.hid (I6.out.app' ho7 hg7 hl7) | exact Lib.hid ((I6.out.gr (Gr.one _ _)).app' ho7 hg7 hl7)); (obtain ⟨t0, t1, t2, t3, t4, t5⟩ := I7.out.2.2.2.2.2.1.2.1); clear ho7 hg7 hl7 hm7))
            all_goals
              go_wp2_with fail
              go_roundw
              case rel => exact ⟨way ++ [o], o.to, q4, rfl, HEA, Lib.hid ⟨HCH.out, HND.out, by rw [flatO_app, List.length_append]; exact I7.out.1, by rw [ids_app, List.length_append]; exact strs_app _ _ ▸ I7.out.2.1, by rw [List.length_append]; exact I7.out.2.2.1, I7.out.2.2.2.1, I7.out.2.2.2.2.1⟩⟩
              case measure => simp [lenV]; omega
end Go.Proofs.YtngbkdnkpolbfaaDoor
