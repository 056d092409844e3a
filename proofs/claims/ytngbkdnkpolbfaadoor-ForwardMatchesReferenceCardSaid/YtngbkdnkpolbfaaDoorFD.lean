/- Orders in memory; the contract of Proper. Under no condition but sizes. -/
import Derived.Test.YtngbkdnkpolbfaaDoorFC
namespace Go.Proofs.YtngbkdnkpolbfaaDoor
open Go.RowKit Go.Maps

/-- the cells of an order at a place -/
def At6 (w : World) (b off : Nat) (o : Ord) : Prop := w.cell? ⟨b, off, none⟩ = some (.string o.id) ∧ w.cell? ⟨b, off + 1, none⟩ = some (.string o.pn) ∧ w.cell? ⟨b, off + 2, none⟩ = some (.string o.fr) ∧ w.cell? ⟨b, off + 3, none⟩ = some (.string o.to) ∧ w.cell? ⟨b, off + 4, none⟩ = some (.int .i64 o.pf) ∧ w.cell? ⟨b, off + 5, none⟩ = some (.int .i64 o.pu)
theorem At6.below {w w' : World} {b off : Nat} {o : Ord} (h : At6 w b off o) {B : Nat} (hb : Below B w w') (hlt : b < B) : At6 w' b off o := by
  obtain ⟨h0, h1, h2, h3, h4, h5⟩ := h
  have k : ∀ j, w'.cell? ⟨b, j, none⟩ = w.cell? ⟨b, j, none⟩ := fun j => hb.cell (p := ⟨b, j, none⟩) hlt
  exact ⟨(k _).trans h0, (k _).trans h1, (k _).trans h2, (k _).trans h3, (k _).trans h4, (k _).trans h5⟩
theorem At6.made (w : World) (o : Ord) (T : TypeId) : At6 (w.alloc (.cells (encO o) T)) w.heap.size 0 o := by
  refine ⟨?_, ?_, ?_, ?_, ?_, ?_⟩ <;> simp
/-- a slice of orders that reads as a list -/
def RdO (w : World) (A : Option Addr) (l : List Ord) : Prop :=
  l = [] ∨ ∃ b off, A = some ⟨b, off, none⟩ ∧ b < w.heap.size ∧ ∀ j (h : j < l.length), At6 w b (off + j * 6) l[j]
theorem RdO.keep {w w' : World} {A : Option Addr} {l : List Ord} (h : RdO w A l) (hb : Below w.heap.size w w') : RdO w' A l := by
  rcases h with h | ⟨b, off, e, hlt, hc⟩
  · exact Or.inl h
  · exact Or.inr ⟨b, off, e, Nat.lt_of_lt_of_le hlt hb.size, fun j hj => (hc j hj).below hb hlt⟩
/-- texts of a moderate size -/
def Small (o : Ord) : Prop := o.id.size ≤ 1000 ∧ o.pn.size ≤ 1000 ∧ o.fr.size ≤ 1000 ∧ o.to.size ≤ 1000
/-- an order that is proper by itself -/
def oneB (o : Ord) : Bool := nmB o.id && (nmB o.pn && (nmB o.fr && (nmB o.to && (!decide (o.fr = o.to) && prp (o.pf, o.pu)))))
instance memB (x : ByteArray) (l : List ByteArray) : Decidable (x ∈ l) := decidable_of_iff (l.any (fun y => decide (y = x)) = true) (by simp)
/-- the identifiers -/
def ids (l : List Ord) : List ByteArray := l.map Ord.id
theorem ids_app (a b : List Ord) : ids (a ++ b) = ids a ++ ids b := List.map_append
/-- proper orders -/
def prpL (l : List Ord) : Bool := l.all oneB && decide ((ids l).Nodup)
theorem prpL_snoc (l : List Ord) (o : Ord) : prpL (l ++ [o]) = (prpL l && (oneB o && !decide (o.id ∈ ids l))) := by
  unfold prpL
  rw [List.all_append, ids_app]
  have e : decide ((ids l ++ ids [o]).Nodup) = (decide ((ids l).Nodup) && !decide (o.id ∈ ids l)) := by
    rw [Bool.eq_iff_iff, decide_eq_true_iff, Bool.and_eq_true, decide_eq_true_iff, List.nodup_append, Bool.not_eq_true', decide_eq_false_iff_not]
    constructor
    · rintro ⟨h1, _, h3⟩
      exact ⟨h1, fun h => h3 _ h o.id (by simp [ids]) rfl⟩
    · rintro ⟨h1, h2⟩
      refine ⟨h1, by simp [ids], fun a ha b hb e => ?_⟩
      have hb' : b = o.id := by simpa [ids] using hb
      exact h2 (by rw [← hb', ← e]; exact ha)
  rw [e]
  simp only [List.all_cons, List.all_nil, Bool.and_true]
  cases l.all oneB <;> cases oneB o <;> simp
theorem prpL_take (l : List Ord) (k : Nat) (h : k < l.length) : prpL (l.take (k + 1)) = (prpL (l.take k) && (oneB l[k] && !decide (l[k].id ∈ ids (l.take k)))) := by
  rw [List.take_succ_eq_append_getElem h, prpL_snoc]
theorem prpL_fall (l : List Ord) (k : Nat) (h : prpL (l.take k) = false) : prpL l = false := by
  have e : l = l.take k ++ l.drop k := (List.take_append_drop k l).symm
  cases hp : prpL l
  · rfl
  · exfalso
    unfold prpL at h hp
    rw [Bool.and_eq_true, decide_eq_true_iff] at hp
    rw [Bool.and_eq_false_iff, decide_eq_false_iff_not] at h
    rcases h with h | h
    · rw [e, List.all_append, Bool.and_eq_true] at hp
      rw [hp.1.1] at h; cases h
    · apply h
      have := hp.2
      rw [e, ids_app, List.nodup_append] at this
      exact this.1
/-- the identifiers that were there -/
def seen (l : List Ord) (x : ByteArray) : Option Value := if x ∈ ids l then some (.bool true) else none
theorem seen_nil : seen [] = fun _ => none := by funext x; simp [seen, ids]
theorem seen_snoc (l : List Ord) (o : Ord) : seen (l ++ [o]) = fun x => if x = o.id then some (.bool true) else seen l x := by
  funext x
  unfold seen
  rw [ids_app]
  by_cases e : x = o.id
  · rw [if_pos e, if_pos (List.mem_append_right _ (by simp [ids, e]))]
  · rw [if_neg e]
    have : x ∈ ids l ++ ids [o] ↔ x ∈ ids l := by
      rw [List.mem_append]
      simp [ids, e]
    by_cases hx : x ∈ ids l
    · rw [if_pos hx, if_pos (this.2 hx)]
    · rw [if_neg hx, if_neg (fun h => hx (this.1 h))]
theorem zero4 (w : World) : (zeroValue 4).run Tryd.prog w = .ok (.bool false) w := by kernel_rfl
theorem period_at {f u : Int} {b : Bool} (h : prp (f, u) = b) (w : World) : Calls Tryd.prog 40 #[.agg #[.int .i64 f, .int .i64 u]] w fun e w' => e = .returned (.bool b) ∧ Gr w w' := by
  rw [← h]; exact proper_any f u w
/-- what holds at the head of a round of Proper -/
def PRel (w : World) (l : List Ord) (k : Nat) (wr : World) : Prop := prpL (l.take k) = true ∧ MapIs wr w.heap.size k (seen (l.take k)) ∧ Below w.heap.size w wr

set_option maxHeartbeats 8000000 in
set_option maxRecDepth 100000 in
theorem proper_list (A : Option Addr) (c : Nat) (l : List Ord) (w : World) (hr : RdO w A l) (hl : l.length ≤ 1000) (hs : ∀ o ∈ l, Small o) :
    Calls Tryd.prog 18 #[.slice A l.length c] w fun e w' => e = .returned (.bool (prpL l)) ∧ Below w.heap.size w w' := by
  have HR := Lib.hid hr
  have HSM := Lib.hid (fun j (h : j < l.length) => hs l[j] (List.getElem_mem h))
  have HT := Lib.hid (prpL_take l)
  have HF := Lib.hid (prpL_fall l)
  have HM0 := Lib.hid (MapIs.made w)
  have HB0 := Lib.hid (Gr.one w (.map #[] 0)).below
  have hmm := @run_makeMap Tryd.prog
  clear hr hs
  obtain ⟨B, hB⟩ : ∃ B, prpL l = B := ⟨_, rfl⟩
  rw [hB] at HF ⊢
  have HBB := Lib.hid hB
  clear hB
  go_enter Tryd.func18, Tryd.ntmps18
  go_wp2_with fail
  go_loopw [5, 9] (fun _p iv wr => ∃ k : Nat, k ≤ l.length ∧ iv = .int .i64 k ∧ Hid (PRel w l k wr)) (fun _ i _ => l.length - (intOf i).toNat)
  case atStart => exact ⟨0, by omega, rfl, Lib.hid ⟨rfl, by rw [List.take_zero, seen_nil]; exact HM0.out, HB0.out⟩⟩
  case round =>
    clear HM0 HB0
    obtain ⟨k, hk, rfl, HP⟩ := hrel
    by_cases hlt : k < l.length
    · have HS := Lib.hid (HT.out k hlt)
      obtain ⟨z1, z2, z3, z4⟩ := HSM.out k hlt
      obtain ⟨hp1, hmap, hbel⟩ := HP.out
      rcases HR.out with he | ⟨b, off, rfl, hbl, hcell⟩
      · exfalso; rw [he] at hlt; simp at hlt
      obtain ⟨c0, c1, c2, c3, c4, c5⟩ := (hcell k hlt).below hbel hbl
      have HMP := Lib.hid hmap
      have HBL := Lib.hid hbel
      have HP1 := Lib.hid hp1
      have HTK := Lib.hid (show l.take (k + 1) = l.take k ++ [l[k]] from List.take_succ_eq_append_getElem hlt)
      clear hcell hp1 hmap hbel HP HSM HT
      obtain ⟨o, ho⟩ : ∃ o, l[k] = o := ⟨_, rfl⟩
      rw [ho] at z1 z2 z3 z4 c0 c1 c2 c3 c4 c5 HS HTK
      clear ho
      rw [HP1.out, Bool.true_and] at HS
      cases h1 : nmB o.id
      · have HB : Hid (B = false) := Lib.hid (HF.out (k + 1) (by rw [HS.out]; simp [oneB, h1]))
        clear HF HS HTK HMP
        have HEND := Lib.hid (HBL.out.trans ((Gr.one wr (.cells (encO o) 26)).below.mono HBL.out.size))
        go_wp2_with fail
        refine (name_at h1 _ z1).mono ?_
        rintro e w' ⟨rfl, rfl⟩
        go_wp2_with fail
        go_ret
        exact ⟨by rw [HB.out]; rfl, HEND.out⟩
      cases h2 : nmB o.pn
      · have HB : Hid (B = false) := Lib.hid (HF.out (k + 1) (by rw [HS.out]; simp [oneB, h1, h2]))
        clear HF HS HTK HMP
        have HEND := Lib.hid (HBL.out.trans ((Gr.one wr (.cells (encO o) 26)).below.mono HBL.out.size))
        go_wp2_with fail
        refine (name_at h1 _ z1).mono ?_
        rintro e w' ⟨rfl, rfl⟩
        go_wp2_with fail
        refine (name_at h2 _ z2).mono ?_
        rintro e w' ⟨rfl, rfl⟩
        go_wp2_with fail
        go_ret
        exact ⟨by rw [HB.out]; rfl, HEND.out⟩
      cases h3 : nmB o.fr
      · have HB : Hid (B = false) := Lib.hid (HF.out (k + 1) (by rw [HS.out]; simp [oneB, h1, h2, h3]))
        clear HF HS HTK HMP
        have HEND := Lib.hid (HBL.out.trans ((Gr.one wr (.cells (encO o) 26)).below.mono HBL.out.size))
        go_wp2_with fail
        refine (name_at h1 _ z1).mono ?_
        rintro e w' ⟨rfl, rfl⟩
        go_wp2_with fail
        refine (name_at h2 _ z2).mono ?_
        rintro e w' ⟨rfl, rfl⟩
        go_wp2_with fail
        refine (name_at h3 _ z3).mono ?_
        rintro e w' ⟨rfl, rfl⟩
        go_wp2_with fail
        go_ret
        exact ⟨by rw [HB.out]; rfl, HEND.out⟩
      cases h4 : nmB o.to
      · have HB : Hid (B = false) := Lib.hid (HF.out (k + 1) (by rw [HS.out]; simp [oneB, h1, h2, h3, h4]))
        clear HF HS HTK HMP
        have HEND := Lib.hid (HBL.out.trans ((Gr.one wr (.cells (encO o) 26)).below.mono HBL.out.size))
        go_wp2_with fail
        refine (name_at h1 _ z1).mono ?_
        rintro e w' ⟨rfl, rfl⟩
        go_wp2_with fail
        refine (name_at h2 _ z2).mono ?_
        rintro e w' ⟨rfl, rfl⟩
        go_wp2_with fail
        refine (name_at h3 _ z3).mono ?_
        rintro e w' ⟨rfl, rfl⟩
        go_wp2_with fail
        refine (name_at h4 _ z4).mono ?_
        rintro e w' ⟨rfl, rfl⟩
        go_wp2_with fail
        go_ret
        exact ⟨by rw [HB.out]; rfl, HEND.out⟩
      by_cases h5 : o.fr = o.to
      · have b5 : (o.fr.toList == o.to.toList) = true := by rw [h5]; simp
        have HB : Hid (B = false) := Lib.hid (HF.out (k + 1) (by rw [HS.out]; simp [oneB, h1, h2, h4, h5]))
        clear HF HS HTK HMP
        clear h5
        have HEND := Lib.hid (HBL.out.trans ((Gr.one wr (.cells (encO o) 26)).below.mono HBL.out.size))
        go_wp2_with fail
        refine (name_at h1 _ z1).mono ?_
        rintro e w' ⟨rfl, rfl⟩
        go_wp2_with fail
        refine (name_at h2 _ z2).mono ?_
        rintro e w' ⟨rfl, rfl⟩
        go_wp2_with fail
        refine (name_at h3 _ z3).mono ?_
        rintro e w' ⟨rfl, rfl⟩
        go_wp2_with fail
        refine (name_at h4 _ z4).mono ?_
        rintro e w' ⟨rfl, rfl⟩
        go_wp2_with fail
        go_ret
        exact ⟨by rw [HB.out]; rfl, HEND.out⟩
      have b5 : (o.fr.toList == o.to.toList) = false := by rw [beq_eq_false_iff_ne, ByteArray.toList_eq, ByteArray.toList_eq]; exact fun e => h5 (ByteArray.ext (Array.toList_inj.1 e))
      cases h6 : prp (o.pf, o.pu)
      · have HB : Hid (B = false) := Lib.hid (HF.out (k + 1) (by rw [HS.out]; simp [oneB, h1, h2, h3, h4, h5, h6]))
        clear HF HS HTK HMP
        go_wp2_with fail
        refine (name_at h1 _ z1).mono ?_
        rintro e w' ⟨rfl, rfl⟩
        go_wp2_with fail
        refine (name_at h2 _ z2).mono ?_
        rintro e w' ⟨rfl, rfl⟩
        go_wp2_with fail
        refine (name_at h3 _ z3).mono ?_
        rintro e w' ⟨rfl, rfl⟩
        go_wp2_with fail
        refine (name_at h4 _ z4).mono ?_
        rintro e w' ⟨rfl, rfl⟩
        go_wp2_with fail
        refine (period_at h6 _).mono ?_
        rintro e w1 ⟨rfl, hg⟩
        have hbw := hg.below
        have HEND := Lib.hid ((HBL.out.trans ((Gr.one wr (.cells (encO o) 26)).below.mono HBL.out.size)).trans (hbw.mono (by have := HBL.out.size; simp; omega)))
        obtain ⟨x0, x1, x2, x3, x4, x5⟩ := (At6.made wr o 26).below hbw (by simp)
        clear hg hbw
        go_wp2_with fail
        go_ret
        exact ⟨by rw [HB.out]; rfl, HEND.out⟩
      by_cases h7 : o.id ∈ ids (l.take k)
      · have HSE := Lib.hid (show seen (l.take k) o.id = some (.bool true) from if_pos h7)
        have HB : Hid (B = false) := Lib.hid (HF.out (k + 1) (by rw [HS.out]; simp [oneB, h7]))
        clear HF HS HTK
        go_wp2_with fail
        refine (name_at h1 _ z1).mono ?_
        rintro e w' ⟨rfl, rfl⟩
        go_wp2_with fail
        refine (name_at h2 _ z2).mono ?_
        rintro e w' ⟨rfl, rfl⟩
        go_wp2_with fail
        refine (name_at h3 _ z3).mono ?_
        rintro e w' ⟨rfl, rfl⟩
        go_wp2_with fail
        refine (name_at h4 _ z4).mono ?_
        rintro e w' ⟨rfl, rfl⟩
        go_wp2_with fail
        refine (period_at h6 _).mono ?_
        rintro e w1 ⟨rfl, hg⟩
        have hbw := hg.below
        have HEND := Lib.hid ((HBL.out.trans ((Gr.one wr (.cells (encO o) 26)).below.mono HBL.out.size)).trans (hbw.mono (by have := HBL.out.size; simp; omega)))
        obtain ⟨x0, x1, x2, x3, x4, x5⟩ := (At6.made wr o 26).below hbw (by simp)
        have HM1 := Lib.hid ((HMP.out.keep (Gr.one wr (.cells (encO o) 26)).below).keep hbw)
        have hlk := HM1.out.look (t := 63) (e := 4) Tryd.underlying63 (zero4 w1) o.id (by unfold maxLen; omega) false
        rw [HSE.out] at hlk
        dsimp only at hlk
        simp only [Bool.false_eq_true, if_false] at hlk
        clear hg hbw HMP HM1
        go_wp2_with fail
        go_ret
        exact ⟨by rw [HB.out]; rfl, HEND.out⟩
      · have HSE := Lib.hid (show seen (l.take k) o.id = none from if_neg h7)
        have HN := Lib.hid (show prpL (l.take (k + 1)) = true by rw [HS.out]; simp [oneB, h1, h2, h3, h4, h5, h6, h7])
        have HSN := Lib.hid (show seen (l.take (k + 1)) = fun x => if x = o.id then some (.bool true) else seen (l.take k) x by rw [HTK.out, seen_snoc])
        clear HF HS HTK
        go_wp2_with fail
        refine (name_at h1 _ z1).mono ?_
        rintro e w' ⟨rfl, rfl⟩
        go_wp2_with fail
        refine (name_at h2 _ z2).mono ?_
        rintro e w' ⟨rfl, rfl⟩
        go_wp2_with fail
        refine (name_at h3 _ z3).mono ?_
        rintro e w' ⟨rfl, rfl⟩
        go_wp2_with fail
        refine (name_at h4 _ z4).mono ?_
        rintro e w' ⟨rfl, rfl⟩
        go_wp2_with fail
        refine (period_at h6 _).mono ?_
        rintro e w1 ⟨rfl, hg⟩
        have hbw := hg.below
        have HEND := Lib.hid ((HBL.out.trans ((Gr.one wr (.cells (encO o) 26)).below.mono HBL.out.size)).trans (hbw.mono (by have := HBL.out.size; simp; omega)))
        obtain ⟨x0, x1, x2, x3, x4, x5⟩ := (At6.made wr o 26).below hbw (by simp)
        have HM1 := Lib.hid ((HMP.out.keep (Gr.one wr (.cells (encO o) 26)).below).keep hbw)
        have hlk := HM1.out.look (t := 63) (e := 4) Tryd.underlying63 (zero4 w1) o.id (by unfold maxLen; omega) false
        rw [HSE.out] at hlk
        dsimp only at hlk
        simp only [Bool.false_eq_true, if_false] at hlk
        clear hg hbw HMP
        go_wp2_with (at_mapUpdate; refine wpList_put rfl _ _ _ 63 rfl 4 Tryd.underlying63 w.heap.size k (seen (l.take k)) rfl HM1.out (by unfold maxLen; omega) o.id rfl (by unfold maxLen; omega) (.bool true) rfl ?_; intro w5 hm5 hg5)
        have HM5 : Hid (MapIs w5 w.heap.size (k + 1) (seen (l.take (k + 1)))) := Lib.hid (by rw [HSN.out]; exact hm5)
        have HE5 := Lib.hid (HEND.out.grown hg5 HEND.out.size (fun k' hk' => by injection hk' with hk'; omega))
        clear hm5 hg5
        go_wp2_with fail
        go_roundw
        case rel => exact ⟨k + 1, by omega, by go_num, Lib.hid ⟨HN.out, HM5.out, HE5.out⟩⟩
        case measure => simp [intOf]; omega
    · obtain rfl : k = l.length := by omega
      have hE : Hid (B = true) := Lib.hid (by have h := HP.out.1; rw [List.take_length, HBB.out] at h; exact h)
      have HBL := Lib.hid HP.out.2.2
      go_wp2_with fail
      go_ret
      exact ⟨by rw [hE.out]; simp; omega, HBL.out⟩
end Go.Proofs.YtngbkdnkpolbfaaDoor
