/- The contract of the reference's Settle. Under no condition but sizes. -/
import Derived.Test.YtngbkdnkpolbfaaDoorHB
import Derived.Test.YtngbkdnkpolbfaaDoorGQ
import Derived.Deep.AppendLies
import Derived.Laws.OwnMore
namespace Go.Proofs.YtngbkdnkpolbfaaDoor
open Go.RowKit Go.Maps

theorem info3 : (Tryd.prog.info? 3).map (fun i => (i.zero, i.size, i.bytes)) = some (some (.int .i64 0), 1, 8) := by kernel_rfl
/-- numbers -/
def nums (l : List Nat) : List Value := l.map fun (k : Nat) => Value.int .i64 (k : Int)
theorem nums_app (a b : List Nat) : nums (a ++ b) = nums a ++ nums b := List.map_append
/-- a row of numbers and a row of texts of the call's own -/
def RW (w : World) (xs : List Nat) (v : Value) (ys : List ByteArray) (v' : Value) (wr : World) : Prop :=
  wr.ownsRow w.heap.size 3 1 v xs.length (nums xs) ∧ wr.ownsRow w.heap.size 9 1 v' ys.length (strs ys) ∧ Below w.heap.size w wr
theorem RW.keep {w : World} {xs : List Nat} {v v' : Value} {ys : List ByteArray} {wr wy : World} (h : RW w xs v ys v' wr) (hb : Below wr.heap.size wr wy) : RW w xs v ys v' wy :=
  ⟨own_below h.1 hb, own_below h.2.1 hb, h.2.2.trans (hb.mono h.2.2.size)⟩
theorem RW.gr {w : World} {xs : List Nat} {v v' : Value} {ys : List ByteArray} {wr wy : World} (h : RW w xs v ys v' wr) (g : Gr wr wy) : RW w xs v ys v' wy := h.keep g.below
theorem own_aside {w w' : World} {base e size n : Nat} {v : Value} {xs : List Value} {row : Option Nat} (h : w.ownsRow base e size v n xs) (hg : w.grownBy w' row) (hne : v.ownBlock = Option.none ∨ v.ownBlock ≠ row) : w'.ownsRow base e size v n xs := by
  refine ⟨h.1, ?_⟩
  rcases h.2 with h2 | ⟨g, cap, cur, hv, h1, hgh, h3⟩
  · exact Or.inl h2
  · refine Or.inr ⟨g, cap, cur, hv, h1, (hg.block g (heap_lt hgh) (fun e => ?_)).trans hgh, h3⟩
    rcases hne with k | k
    · rw [hv] at k; cases k
    · exact k (by rw [hv]; exact e)
theorem RW.app {w : World} {xs : List Nat} {v v' : Value} {ys : List ByteArray} {wr wx wy : World} {g cap k : Nat} (h : RW w xs v ys v' wr) (g0 : Gr wr wx) (ho : wy.ownsRow w.heap.size 3 1 (.slice (some ⟨g, 0, Option.none⟩) (xs.length + 1) cap) (xs.length + 1) (nums xs ++ nums [k])) (hg : wx.grownBy wy v.ownBlock) : RW w (xs ++ [k]) (.slice (some ⟨g, 0, Option.none⟩) (xs.length + 1) cap) ys v' wy := by
  have h' := h.gr g0
  refine ⟨by rw [nums_app, List.length_append]; exact ho, own_aside h'.2.1 hg ?_, h'.2.2.grown hg h'.2.2.size (fun k' hk' => (h'.1.lt k' hk').1)⟩
  exact own_own_ne h'.2.1 h'.1 (by decide)
theorem RW.app' {w : World} {xs : List Nat} {v v' : Value} {ys : List ByteArray} {wr wx wy : World} {g cap : Nat} {y : ByteArray} (h : RW w xs v ys v' wr) (g0 : Gr wr wx) (ho : wy.ownsRow w.heap.size 9 1 (.slice (some ⟨g, 0, Option.none⟩) (ys.length + 1) cap) (ys.length + 1) (strs ys ++ strs [y])) (hg : wx.grownBy wy v'.ownBlock) : RW w xs v (ys ++ [y]) (.slice (some ⟨g, 0, Option.none⟩) (ys.length + 1) cap) wy := by
  have h' := h.gr g0
  refine ⟨own_aside h'.1 hg ?_, by rw [strs_app, List.length_append]; exact ho, h'.2.2.grown hg h'.2.2.size (fun k' hk' => (h'.2.1.lt k' hk').1)⟩
  exact own_own_ne h'.1 h'.2.1 (by decide)
theorem RW.num {w : World} {xs : List Nat} {g cap n : Nat} {v' : Value} {ys : List ByteArray} {wr : World} (h : RW w xs (.slice (some ⟨g, 0, Option.none⟩) n cap) ys v' wr) {j : Nat} (hj : j < xs.length) : wr.cell? ⟨g, j, Option.none⟩ = some (.int .i64 (xs[j] : Int)) ∧ g < wr.heap.size := by
  have hn : n = xs.length := by
    rcases h.1.2 with ⟨e, _⟩ | ⟨_, _, _, e, _⟩
    · cases e
    · injection e
  subst hn
  refine ⟨?_, (h.1.lt g rfl).2⟩
  rw [World.ownsRow.cellAt h.1 j (by simpa using hj)]
  simp [nums, hj]
theorem RW.txt {w : World} {xs : List Nat} {v v' : Value} {ys : List ByteArray} {wr : World} (h : RW w xs v ys v' wr) : ∃ A c, v' = .slice A ys.length c ∧ ys.length ≤ c ∧ RdS wr A ys := by
  obtain ⟨_, A, c, hv, hc, hr⟩ := own_strs h.2.1
  exact ⟨A, c, hv, hc, hr⟩
/-- the indexes of a way -/
def Ix (l way : List Ord) (xs : List Nat) : Prop := xs.length = way.length ∧ ∀ j (h : j < xs.length) (h' : j < way.length), ∃ hl : xs[j] < l.length, l[xs[j]] = way[j]
theorem Ix.app {l way : List Ord} {xs : List Nat} {k : Nat} (h : Ix l way xs) (hk : k < l.length) : Ix l (way ++ [l[k]]) (xs ++ [k]) := by
  refine ⟨by simp [h.1], fun j hj hj' => ?_⟩
  by_cases e : j < xs.length
  · have e' : j < way.length := by rw [← h.1]; exact e
    obtain ⟨h1, h2⟩ := h.2 j e e'
    refine ⟨by rw [List.getElem_append_left e]; exact h1, ?_⟩
    simp only [List.getElem_append_left e, List.getElem_append_left e']
    exact h2
  · have e1 : j = xs.length := by simp at hj; omega
    subst e1
    refine ⟨by simp [hk], ?_⟩
    simp [h.1]
theorem ix_at {l way : List Ord} {xs : List Nat} {w wr : World} {g cap n : Nat} {ys : List ByteArray} {v' : Value} (hI : Ix l way xs) (hR : RW w xs (.slice (some ⟨g, 0, Option.none⟩) n cap) ys v' wr) {j : Nat} (hj : j < way.length) {q : Ord} (hq : way[j] = q) : ∃ k, (∃ h : k < l.length, l[k] = q) ∧ wr.cell? ⟨g, j, Option.none⟩ = some (.int .i64 (k : Int)) ∧ g < wr.heap.size := by
  have hx : j < xs.length := by rw [hI.1]; exact hj
  subst hq
  exact ⟨xs[j], hI.2 j hx hj, (hR.num hx).1, (hR.num hx).2⟩
/-- what holds of a way that goes on -/
def Wy (C : ByteArray → Option Ord) (door : ByteArray) (way : List Ord) (x : ByteArray) : Prop := Chain Ord.to C door way ∧ (way.map Ord.fr).Nodup ∧ x = endAt Ord.to door way
theorem Wy.app {C : ByteArray → Option Ord} {door x : ByteArray} {way : List Ord} {o : Ord} (h : Wy C door way x) (hn : ∀ j (h : j < way.length), way[j].fr ≠ x) (hc : C x = some o) (hf : o.fr = x) : Wy C door (way ++ [o]) o.to := by
  obtain ⟨h1, h2, h3⟩ := h
  refine ⟨(chain_app Ord.to _ _ _ _).2 ⟨h1, by rw [← h3]; exact ⟨hc, trivial⟩⟩, ?_, (endAt_snoc Ord.to _ _ _).symm⟩
  rw [List.map_append, List.nodup_append]
  refine ⟨h2, by simp, fun a ha b hb e => ?_⟩
  have hb' : b = o.fr := by simpa using hb
  obtain ⟨q, hq, rfl⟩ := List.mem_map.1 ha
  obtain ⟨j, hj, rfl⟩ := List.getElem_of_mem hq
  exact hn j hj (by rw [e, hb', hf])
theorem Wy.out {C : ByteArray → Option Ord} {door x : ByteArray} {way : List Ord} (h : Wy C door way x) (hc : C x = none) : Ends Ord.fr Ord.to nwB C door way x := ⟨h.1, h.2.1, Or.inl ⟨by rw [← h.2.2]; exact hc, h.2.2⟩⟩
theorem Wy.circle {C : ByteArray → Option Ord} {door x : ByteArray} {way : List Ord} (h : Wy C door way x) {p : Nat} (hp : p < way.length) (hx : way[p].fr = x) : Ends Ord.fr Ord.to nwB C door way (bst way p hp way.length).to := by
  refine ⟨h.1, h.2.1, Or.inr ⟨way.take p, way[p], way.drop (p + 1), by rw [List.getElem_cons_drop, List.take_append_drop], by rw [← h.2.2, hx], ?_⟩⟩
  unfold bst
  rw [List.take_of_length_le (by rw [List.length_drop]; omega), ← List.getElem_cons_drop hp, best_cons, if_neg (by rw [so_nw.irr]; simp)]
theorem Wy.le {pn : ByteArray} {day : Int} {l way : List Ord} {door x : ByteArray} (h : Wy (cntO pn day l) door way x) : way.length ≤ l.length :=
  nodup_le (nodup_of_map h.2.1) (fun o ho => cnt_in _ o (chain_mem Ord.fr Ord.to (own_cnt pn day l) h.1 o ho))
theorem rarg_no1 {l : List Ord} {pn door : ByteArray} {day : Int} (h : argB l pn door day = false) : prpL l = false ∨ (prpL l = true ∧ nmB pn = false) ∨ (prpL l = true ∧ nmB pn = true ∧ nmB door = false) ∨ (prpL l = true ∧ nmB pn = true ∧ nmB door = true ∧ (day < 0 ∨ 100000 < day)) := by
  unfold argB at h
  cases h1 : prpL l <;> cases h2 : nmB pn <;> cases h3 : nmB door <;> simp [h1, h2, h3] at h ⊢
  omega

set_option maxHeartbeats 16000000 in
set_option maxRecDepth 100000 in
theorem rsettle_no (A : Option Addr) (c : Nat) (l : List Ord) (pn door : ByteArray) (day : Int) (w : World) (hr : RdO w A l) (hf : fewB l = true) (z1 : pn.size ≤ 1000) (z2 : door.size ≤ 1000) (h : argB l pn door day = false) : Calls Tryd.prog 13 #[.slice A l.length c, .string pn, .string door, .int .i64 day] w fun e w' => e = .returned (.tuple #[.string ⟨#[]⟩, .slice none 0 0, .int .i64 1]) ∧ Below w.heap.size w w' := by
  have HPL := Lib.hid (fun W (h : RdO W A l) => rproper_list A c l W h (by have := few_len hf; omega) (fun o ho => by have k := few_mem hf ho; exact ⟨by omega, by omega, by omega, by omega⟩))
  rcases rarg_no1 h with h1 | ⟨h1, h2⟩ | ⟨h1, h2, h3⟩ | ⟨h1, h2, h3, h4⟩
  · rw [h1] at HPL
    clear h h1
    go_enter Tryd.func13, Tryd.ntmps13
    go_wp2_with fail
    refine (HPL.out _ hr).mono ?_
    rintro e w1 ⟨rfl, hg⟩
    have G1 := Lib.hid hg
    clear hg
    go_wp2_with fail
    go_ret3
    exact ⟨rfl, G1.out.below⟩
  · rw [h1] at HPL
    clear h h1
    go_enter Tryd.func13, Tryd.ntmps13
    go_wp2_with fail
    refine (HPL.out _ hr).mono ?_
    rintro e w1 ⟨rfl, hg⟩
    have G1 := Lib.hid hg
    clear hg
    go_wp2_with fail
    refine (rname_at h2 _ z1).mono ?_
    rintro e _ ⟨rfl, rfl⟩
    go_wp2_with fail
    go_ret3
    exact ⟨rfl, G1.out.below⟩
  · rw [h1] at HPL
    clear h h1
    go_enter Tryd.func13, Tryd.ntmps13
    go_wp2_with fail
    refine (HPL.out _ hr).mono ?_
    rintro e w1 ⟨rfl, hg⟩
    have G1 := Lib.hid hg
    clear hg
    go_wp2_with fail
    refine (rname_at h2 _ z1).mono ?_
    rintro e _ ⟨rfl, rfl⟩
    go_wp2_with fail
    refine (rname_at h3 _ z2).mono ?_
    rintro e _ ⟨rfl, rfl⟩
    go_wp2_with fail
    go_ret3
    exact ⟨rfl, G1.out.below⟩
  · rw [h1] at HPL
    clear h h1
    go_enter Tryd.func13, Tryd.ntmps13
    go_wp2_with fail
    refine (HPL.out _ hr).mono ?_
    rintro e w1 ⟨rfl, hg⟩
    have G1 := Lib.hid hg
    clear hg
    go_wp2_with fail
    refine (rname_at h2 _ z1).mono ?_
    rintro e _ ⟨rfl, rfl⟩
    go_wp2_with fail
    refine (rname_at h3 _ z2).mono ?_
    rintro e _ ⟨rfl, rfl⟩
    go_wp2_with fail
    refine (is_no _ _ h4).mono ?_
    rintro e _ ⟨rfl, rfl⟩
    go_wp2_with fail
    go_ret3
    exact ⟨rfl, G1.out.below⟩
theorem numw {w : World} {k : Nat} {j : Nat} {u : Value} (h : (nums [k])[j]? = some u) : (w.alloc (.cells #[.int .i64 (k : Int)] 3)).cell? ((⟨w.heap.size, 0, none⟩ : Addr).add j) = some u := by
  match j, h with
  | 0, h => simp [nums] at h; subst h; rw [add_lit]; simp
  | j + 1, h => simp [nums] at h
set_option maxHeartbeats 16000000 in
set_option maxRecDepth 100000 in
theorem rsettle_yes (A : Option Addr) (c : Nat) (l : List Ord) (pn door : ByteArray) (day : Int) (w : World) (hr : RdO w A l) (hf : fewB l = true) (z1 : pn.size ≤ 1000) (z2 : door.size ≤ 1000) (h : argB l pn door day = true) : Calls Tryd.prog 13 #[.slice A l.length c, .string pn, .string door, .int .i64 day] w (SPw (cntO pn day l) door w) := by
  have mixed : Tryd.prog.follows .mixedOrders = true := by kernel_rfl
  have HL30 := few_len hf
  have HPL := Lib.hid (fun W (h : RdO W A l) => rproper_list A c l W h (by have := few_len hf; omega) (fun o ho => by have k := few_mem hf ho; exact ⟨by omega, by omega, by omega, by omega⟩))
  have ha' := h
  unfold argB at ha'
  simp only [Bool.and_eq_true, decide_eq_true_iff] at ha'
  obtain ⟨⟨d0, d1⟩, h1, h2, h3⟩ := ha'
  rw [h1] at HPL
  have HP := Lib.hid h1
  clear h h1
  have HRR := Lib.hid hr
  obtain ⟨i3, hi3, ha3, hb3, hc3⟩ := info_parts info3
  obtain ⟨i9, hi9, ha9, hb9, hc9⟩ := info_parts info9
  go_enter Tryd.func13, Tryd.ntmps13
  go_wp2_with fail
  refine (HPL.out _ hr).mono ?_
  rintro e w1 ⟨rfl, hg⟩
  have G1 := Lib.hid hg
  clear hg
  go_wp2_with fail
  refine (rname_at h2 _ z1).mono ?_
  rintro e _ ⟨rfl, rfl⟩
  go_wp2_with fail
  refine (rname_at h3 _ z2).mono ?_
  rintro e _ ⟨rfl, rfl⟩
  go_wp2_with fail
  refine (is_yes _ _ d0 d1).mono ?_
  rintro e _ ⟨rfl, rfl⟩
  clear hr h2 h3
  have M0 : Hid (RW w [] (.slice none 0 0) [] (.slice none 0 0) w1) := Lib.hid ⟨World.ownsRow_nil _ _ _ _, World.ownsRow_nil _ _ _ _, G1.out.below⟩
  clear G1
  go_wp2_with fail
  go_loopw [11, 12, 13, 14, 15, 16, 17] (fun v1 v2 xv _i _k _b _j wr => ∃ (way : List Ord) (xs : List Nat) (x : ByteArray), xv = .string x ∧ (∃ A2 c2, v2 = .slice A2 way.length c2) ∧ Hid (Wy (cntO pn day l) door way x ∧ (∀ j (h : j < way.length), way[j].fr ≠ x) ∧ Ix l way xs) ∧ Hid (RW w xs v1 (ids way) v2 wr)) (fun _ v2 _ _ _ _ _ _ => 31 - lenV v2)
  case atStart => exact ⟨[], [], door, rfl, ⟨none, 0, rfl⟩, Lib.hid ⟨⟨trivial, List.nodup_nil, rfl⟩, (fun j h => by cases h), rfl, (fun j h _ => by cases h)⟩, M0⟩
  case round =>
    clear M0
    obtain ⟨way, xs, x, rfl, ⟨A2, c2, rfl⟩, HW, M⟩ := hrel
    have hw30 : way.length ≤ 30 := Nat.le_trans HW.out.1.le HL30
    have hxl : xs.length = way.length := HW.out.2.2.1
    have HXL := Lib.hid hxl
    clear hxl
    go_wp2_with fail
    refine (counts_any A c l pn x day _ (HRR.out.keep M.out.2.2) (by omega)).mono ?_
    rintro e w3 ⟨bi, rfl, hg, hh⟩
    have M3 := Lib.hid (M.out.gr hg)
    clear hg M
    rcases hh with ⟨rfl, hn⟩ | ⟨kk, hkk, rfl, hn⟩
    · obtain ⟨A3, c3, hv, hc3', hr3⟩ := M3.out.txt
      have hil : (ids way).length = way.length := by simp [ids]
      rw [hil] at hv hc3'
      injection hv with e1 _ e2
      subst e1 e2
      have HE : Hid (SPw (cntO pn day l) door w (.returned (.tuple #[.string x, .slice A2 way.length c2, .int .i64 0])) w3) := Lib.hid ⟨way, x, A2, c2, rfl, HW.out.1.out hn, hc3', hr3, M3.out.2.2⟩
      clear hn HW M3 hc3' hr3 hil
      go_wp2_with fail
      go_ret3
      exact HE.out
    · have HF := Lib.hid (own_cnt pn day l x l[kk] hn)
      have HW2 := Lib.hid (HW.out.1.app HW.out.2.1 hn HF.out)
      have HI2 := Lib.hid (HW.out.2.2.app hkk)
      obtain ⟨b, off, rfl, hb, q0, q1, q2, q3, q4, q5⟩ := (HRR.out.keep M3.out.2.2).at hkk
      obtain ⟨o, ho⟩ : ∃ o, l[kk] = o := ⟨_, rfl⟩
      rw [ho] at q0 q1 q2 q3 q4 q5 HF HW2 HI2
      have HO := Lib.hid ho
      clear ho hn HW
      obtain ⟨A1, c1, rfl⟩ := own_len M3.out.1
      rw [HXL.out]
      have HN1 := Lib.hid (fun j u (hu : (nums [kk])[j]? = some u) => numw (w := w3) hu)
      have HZ := Lib.hid M3.out.2.2.size
      have hkn : ¬ (kk : Int) < 0 := by omega
      have hk0 : (0 : Int) ≤ (kk : Int) := Int.natCast_nonneg _
      have hk1 : (kk : Int) < (l.length : Int) := by omega
      go_wp2_with (at_builtin; first | (refine wpList_append_lies _ rfl (.tmp 46) (.tmp 48) 56 rfl w.heap.size 3 i3 _ 1 8 Tryd.underlying56 hi3 ha3 hb3 hc3 rfl (by decide) (.slice A1 way.length c1) way.length (nums xs) rfl (by have k := (M3.out.gr (Gr.one w3 (.cells #[.int .i64 (kk : Int)] 3))).1; rw [HXL.out] at k; exact k) ⟨w3.heap.size, 0, none⟩ 1 1 (nums [kk]) rfl rfl HN1.out (by intro u hu; simp [nums] at hu; subst hu; rfl) (by decide) (by unfold maxLen; omega) (by omega) (by have := HZ.out; simp; omega) _ rfl ?_; intro g1 cap1 w5 ho1 hg1 hl1 hm1; (have M5 : Hid (RW w (xs ++ [kk]) (.slice (some ⟨g1, 0, none⟩) (way.length + 1) cap1) (ids way) (.slice A2 way.length c2) w5) := Lib.hid (by have k := M3.out.app (Gr.one _ (.cells #[.int .i64 (kk : Int)] 3)) (by rw [HXL.out]; exact ho1) (by rw [HXL.out]; exact hg1); rw [HXL.out] at k; exact k)); clear ho1 hg1 hl1 hm1 q0 q1 q2 q3 q4 q5; (obtain ⟨b2, off2, e2, hb2, q0, q1, q2, q3, q4, q5⟩ := (HRR.out.keep M5.out.2.2).at hkk); (obtain ⟨rfl, rfl⟩ : b = b2 ∧ off = off2 := by injection e2 with e2; injection e2 with e2 e3; exact ⟨e2, e3⟩); clear e2 hb2; (rw [HO.out] at q0 q1 q2 q3 q4 q5); (have HZ5 := Lib.hid M5.out.2.2.size); (have HN2 := Lib.hid (fun j u (hu : (strs [o.id])[j]? = some u) => news1 (w := w5) hu))) | (refine wpList_append_lies _ rfl (.tmp 50) (.tmp 56) 30 rfl w.heap.size 9 i9 _ 1 16 Tryd.underlying30 hi9 ha9 hb9 hc9 rfl (by decide) (.slice A2 way.length c2) way.length (strs (ids way)) rfl (by have k := (M5.out.gr (Gr.one w5 (.cells #[.string o.id] 9))).2.1; rw [show (ids way).length = way.length by simp [ids]] at k; exact k) ⟨w5.heap.size, 0, none⟩ 1 1 (strs [o.id]) rfl rfl HN2.out (by intro u hu; simp [strs] at hu; subst hu; rfl) (by decide) (by unfold maxLen; omega) (by omega) (by have := HZ5.out; simp; omega) _ rfl ?_; intro g2 cap2 w6 ho2 hg2 hl2 hm2; (have M6 : Hid (RW w (xs ++ [kk]) (.slice (some ⟨g1, 0, none⟩) (way.length + 1) cap1) (ids (way ++ [o])) (.slice (some ⟨g2, 0, none⟩) (way.length + 1) cap2) w6) := Lib.hid (by have k := M5.out.app' (y := o.id) (Gr.one _ (.cells #[.string o.id] 9)) (by rw [show (ids way).length = way.length by simp [ids]]; exact ho2) hg2; rw [show (ids way).length = way.length by simp [ids]] at k; rw [ids_app]; exact k)); clear ho2 hg2 hl2 hm2 q0 q1 q2 q3 q4 q5; (obtain ⟨b2, off2, e2, hb2, q0, q1, q2, q3, q4, q5⟩ := (HRR.out.keep M6.out.2.2).at hkk); (obtain ⟨rfl, rfl⟩ : b = b2 ∧ off = off2 := by injection e2 with e2; injection e2 with e2 e3; exact ⟨e2, e3⟩); clear e2 hb2; (rw [HO.out] at q0 q1 q2 q3 q4 q5)))
      clear M5 M3 HN1 HN2 HZ HZ5 q0 q1 q2 q3 q4 q5
      obtain ⟨wo, rfl⟩ : ∃ wo : World, wo = w6 := ⟨_, rfl⟩
      have hwl : (way ++ [o]).length = way.length + 1 := by simp
      have HWL := Lib.hid hwl
      clear hwl
      obtain ⟨m, hm⟩ : ∃ m, way.length = m := ⟨_, rfl⟩
      rw [hm]
      rw [hm] at M6 HWL HXL hw30
      obtain ⟨wy, hwy⟩ : ∃ wy, way ++ [o] = wy := ⟨_, rfl⟩
      rw [hwy] at HW2 HI2 HWL M6
      obtain ⟨xy, hxy⟩ : ∃ xy, xs ++ [kk] = xy := ⟨_, rfl⟩
      rw [hxy] at HI2 M6
      have HML := Lib.hid hm
      clear hm hwy hxy HXL
      go_loopw [15, 16, 17] (fun kv _b _j wj => ∃ k : Nat, k ≤ m + 1 ∧ kv = .int .i64 k ∧ Hid (∀ j (h : j < wy.length), j < k → wy[j].fr ≠ o.to) ∧ Hid (RW w xy (.slice (some ⟨g1, 0, none⟩) (m + 1) cap1) (ids wy) (.slice (some ⟨g2, 0, none⟩) (m + 1) cap2) wj)) (fun k _ _ _ => m + 1 - (intOf k).toNat)
      case atStart => exact ⟨0, by omega, rfl, Lib.hid (fun j _ h => by omega), M6⟩
      case round =>
        clear M6 hb
        obtain ⟨k, hk, rfl, HD, M⟩ := hrel
        have hkz : (0 : Int) ≤ (k : Int) := Int.natCast_nonneg _
        by_cases hlt : k < m + 1
        · have hjw_p : k < wy.length := by rw [HWL.out]; omega
          obtain ⟨q, hq_p⟩ : ∃ q, wy[k]'hjw_p = q := ⟨_, rfl⟩
          obtain ⟨n_p, ⟨pl, ple⟩, pc, hgg⟩ := ix_at HI2.out M.out hjw_p hq_p
          have HQ_p := Lib.hid hq_p
          clear hq_p
          have HK_p := Lib.hid ple
          obtain ⟨b2, off2, e2, hb, p0, p1, p2, p3, p4, p5⟩ := (HRR.out.keep M.out.2.2).at pl
          obtain ⟨rfl, rfl⟩ : b = b2 ∧ off = off2 := by injection e2 with e2; injection e2 with e2 e3; exact ⟨e2, e3⟩
          clear e2
          rw [ple] at p0 p1 p2 p3 p4 p5
          clear ple
          have hn0_p : (0 : Int) ≤ (n_p : Int) := Int.natCast_nonneg _
          have hn1_p : (n_p : Int) < (l.length : Int) := by omega
          have hki : (k : Int) < (m : Int) + 1 := by omega
          have HJW := Lib.hid hjw_p
          by_cases e : q.fr = o.to
          · have d1 := bytes_eq e
            have HC := Lib.hid (HW2.out.circle hjw_p (by rw [HQ_p.out]; exact e))
            have HST := Lib.hid (bst_at wy k hjw_p)
            have HBS := Lib.hid (fun i (h1 : k ≤ i) (h2 : i < wy.length) => bst_step wy k hjw_p h1 h2)
            have HKB : Hid (∃ h : n_p < l.length, l[n_p] = bst wy k hjw_p k) := Lib.hid ⟨pl, by rw [HK_p.out, HST.out, HQ_p.out]⟩
            clear e HD
            go_wp2_with fail
            clear p0 p1 p2 p3 p4 p5 pc hgg hb
            obtain ⟨wo2, rfl⟩ : ∃ wo2 : World, wo2 = wr := ⟨_, rfl⟩
            go_loopw [16, 17] (fun bv jv wj => ∃ j : Nat, k ≤ j ∧ j ≤ m + 1 ∧ jv = .int .i64 j ∧ ∃ kb : Nat, bv = .int .i64 kb ∧ Hid (∃ h : kb < l.length, l[kb] = bst wy k HJW.out j) ∧ Hid (RW w xy (.slice (some ⟨g1, 0, none⟩) (m + 1) cap1) (ids wy) (.slice (some ⟨g2, 0, none⟩) (m + 1) cap2) wj)) (fun _ j _ => m + 1 - (intOf j).toNat)
            case atStart => exact ⟨k, by omega, by omega, rfl, n_p, rfl, HKB, M⟩
            case round =>
              clear M HKB
              obtain ⟨j, hkj, hj, rfl, kb, rfl, HKB, M⟩ := hrel
              obtain ⟨hkb, hkb2⟩ := HKB.out
              have HB1 := Lib.hid hkb2
              clear hkb2 HKB
              by_cases hjt : j < m + 1
              · have hjw_r : j < wy.length := by rw [HWL.out]; omega
                obtain ⟨r', hq_r⟩ : ∃ q, wy[j]'hjw_r = q := ⟨_, rfl⟩
                obtain ⟨n_r, ⟨rl, rle⟩, rc, hgg⟩ := ix_at HI2.out M.out hjw_r hq_r
                have HQ_r := Lib.hid hq_r
                clear hq_r
                have HK_r := Lib.hid rle
                obtain ⟨b2, off2, e2, hb, r0, r1, r2, r3, r4, r5⟩ := (HRR.out.keep M.out.2.2).at rl
                obtain ⟨rfl, rfl⟩ : b = b2 ∧ off = off2 := by injection e2 with e2; injection e2 with e2 e3; exact ⟨e2, e3⟩
                clear e2
                rw [rle] at r0 r1 r2 r3 r4 r5
                clear rle
                have hn0_r : (0 : Int) ≤ (n_r : Int) := Int.natCast_nonneg _
                have hn1_r : (n_r : Int) < (l.length : Int) := by omega
                have HRC := Lib.hid rc
                have HS1 := Lib.hid (HBS.out j hkj hjw_r)
                obtain ⟨b2, off2, e2, _, y0, y1, y2, y3, y4, y5⟩ := (HRR.out.keep M.out.2.2).at hkb
                obtain ⟨rfl, rfl⟩ : b = b2 ∧ off = off2 := by injection e2 with e2; injection e2 with e2 e3; exact ⟨e2, e3⟩
                clear e2
                rw [HB1.out] at y0 y1 y2 y3 y4 y5
                obtain ⟨y, hy⟩ : ∃ y, bst wy k HJW.out j = y := ⟨_, rfl⟩
                have HS2 : Hid (bst wy k HJW.out (j + 1) = if nwB r' y = true then r' else y) := Lib.hid (by have h := HS1.out; rw [HQ_r.out] at h; rw [← hy]; exact h)
                rw [hy] at y0 y1 y2 y3 y4 y5 HB1
                clear hy HS1
                cases hn : nwB r' y
                · have HB2 : Hid (∃ h : kb < l.length, l[kb] = bst wy k HJW.out (j + 1)) := Lib.hid ⟨hkb, by rw [HS2.out, hn]; exact HB1.out⟩
                  have gr0 : ∀ n os, (Sort.grow (wr.drewN n) os).cell? ⟨g1, j, none⟩ = some (.int .i64 (n_r : Int)) := fun n os => cell_grown hgg (by assumption) n os
                  have gr1 : ∀ n os, (Sort.grow (wr.drewN n) os).cell? ⟨b, off + n_r * 6, none⟩ = some (.string r'.id) := fun n os => cell_grown hb (by assumption) n os
                  have gr2 : ∀ n os, (Sort.grow (wr.drewN n) os).cell? ⟨b, off + n_r * 6 + 1, none⟩ = some (.string r'.pn) := fun n os => cell_grown hb (by assumption) n os
                  have gr3 : ∀ n os, (Sort.grow (wr.drewN n) os).cell? ⟨b, off + n_r * 6 + 2, none⟩ = some (.string r'.fr) := fun n os => cell_grown hb (by assumption) n os
                  have gr4 : ∀ n os, (Sort.grow (wr.drewN n) os).cell? ⟨b, off + n_r * 6 + 3, none⟩ = some (.string r'.to) := fun n os => cell_grown hb (by assumption) n os
                  have gr5 : ∀ n os, (Sort.grow (wr.drewN n) os).cell? ⟨b, off + n_r * 6 + 4, none⟩ = some (.int .i64 r'.pf) := fun n os => cell_grown hb (by assumption) n os
                  have gr6 : ∀ n os, (Sort.grow (wr.drewN n) os).cell? ⟨b, off + n_r * 6 + 5, none⟩ = some (.int .i64 r'.pu) := fun n os => cell_grown hb (by assumption) n os
                  have gr7 : ∀ n os, (Sort.grow (wr.drewN n) os).cell? ⟨b, off + kb * 6, none⟩ = some (.string y.id) := fun n os => cell_grown hb (by assumption) n os
                  have gr8 : ∀ n os, (Sort.grow (wr.drewN n) os).cell? ⟨b, off + kb * 6 + 1, none⟩ = some (.string y.pn) := fun n os => cell_grown hb (by assumption) n os
                  have gr9 : ∀ n os, (Sort.grow (wr.drewN n) os).cell? ⟨b, off + kb * 6 + 2, none⟩ = some (.string y.fr) := fun n os => cell_grown hb (by assumption) n os
                  have gr10 : ∀ n os, (Sort.grow (wr.drewN n) os).cell? ⟨b, off + kb * 6 + 3, none⟩ = some (.string y.to) := fun n os => cell_grown hb (by assumption) n os
                  have gr11 : ∀ n os, (Sort.grow (wr.drewN n) os).cell? ⟨b, off + kb * 6 + 4, none⟩ = some (.int .i64 y.pf) := fun n os => cell_grown hb (by assumption) n os
                  have gr12 : ∀ n os, (Sort.grow (wr.drewN n) os).cell? ⟨b, off + kb * 6 + 5, none⟩ = some (.int .i64 y.pu) := fun n os => cell_grown hb (by assumption) n os
                  have hj0 : (0 : Int) ≤ (j : Int) := Int.natCast_nonneg _
                  have hj1 : (j : Int) < (m : Int) + 1 := by omega
                  have hb0 : (0 : Int) ≤ (kb : Int) := Int.natCast_nonneg _
                  have hb1 : (kb : Int) < (l.length : Int) := by omega
                  have hnn := hn
                  clear hn r0 r1 r2 r3 r4 r5 y0 y1 y2 y3 y4 y5 rc
                  go_wp2_with fail
                  refine wp_region_quiet_grown (by assumption) (by kernel_rfl) ?_
                  repeat (first | go_big_quiet_skip | quiet_step ((first | (go_at_call 23; exact Calls.grown_of (rnewer_at hnn _)))))
                  refine wpQuiet_nil ?_
                  intro _ hw'
                  obtain ⟨⟨nq, osq⟩, hw''⟩ := hw'
                  subst hw''
                  dsimp only
                  have M9 := Lib.hid (M.out.gr ⟨nq, osq, rfl⟩)
                  have rc := cell_grown hgg HRC.out nq osq
                  clear M gr0 gr1 gr2 gr3 gr4 gr5 gr6 gr7 gr8 gr9 gr10 gr11 gr12
                  go_wp2_with fail
                  go_roundw
                  case rel => exact ⟨j + 1, by omega, by omega, by go_num, _, rfl, HB2, M9⟩
                  case measure => simp [intOf]; omega
                · have HB2 : Hid (∃ h : n_r < l.length, l[n_r] = bst wy k HJW.out (j + 1)) := Lib.hid ⟨rl, by rw [HS2.out, hn, HK_r.out]; rfl⟩
                  have gr0 : ∀ n os, (Sort.grow (wr.drewN n) os).cell? ⟨g1, j, none⟩ = some (.int .i64 (n_r : Int)) := fun n os => cell_grown hgg (by assumption) n os
                  have gr1 : ∀ n os, (Sort.grow (wr.drewN n) os).cell? ⟨b, off + n_r * 6, none⟩ = some (.string r'.id) := fun n os => cell_grown hb (by assumption) n os
                  have gr2 : ∀ n os, (Sort.grow (wr.drewN n) os).cell? ⟨b, off + n_r * 6 + 1, none⟩ = some (.string r'.pn) := fun n os => cell_grown hb (by assumption) n os
                  have gr3 : ∀ n os, (Sort.grow (wr.drewN n) os).cell? ⟨b, off + n_r * 6 + 2, none⟩ = some (.string r'.fr) := fun n os => cell_grown hb (by assumption) n os
                  have gr4 : ∀ n os, (Sort.grow (wr.drewN n) os).cell? ⟨b, off + n_r * 6 + 3, none⟩ = some (.string r'.to) := fun n os => cell_grown hb (by assumption) n os
                  have gr5 : ∀ n os, (Sort.grow (wr.drewN n) os).cell? ⟨b, off + n_r * 6 + 4, none⟩ = some (.int .i64 r'.pf) := fun n os => cell_grown hb (by assumption) n os
                  have gr6 : ∀ n os, (Sort.grow (wr.drewN n) os).cell? ⟨b, off + n_r * 6 + 5, none⟩ = some (.int .i64 r'.pu) := fun n os => cell_grown hb (by assumption) n os
                  have gr7 : ∀ n os, (Sort.grow (wr.drewN n) os).cell? ⟨b, off + kb * 6, none⟩ = some (.string y.id) := fun n os => cell_grown hb (by assumption) n os
                  have gr8 : ∀ n os, (Sort.grow (wr.drewN n) os).cell? ⟨b, off + kb * 6 + 1, none⟩ = some (.string y.pn) := fun n os => cell_grown hb (by assumption) n os
                  have gr9 : ∀ n os, (Sort.grow (wr.drewN n) os).cell? ⟨b, off + kb * 6 + 2, none⟩ = some (.string y.fr) := fun n os => cell_grown hb (by assumption) n os
                  have gr10 : ∀ n os, (Sort.grow (wr.drewN n) os).cell? ⟨b, off + kb * 6 + 3, none⟩ = some (.string y.to) := fun n os => cell_grown hb (by assumption) n os
                  have gr11 : ∀ n os, (Sort.grow (wr.drewN n) os).cell? ⟨b, off + kb * 6 + 4, none⟩ = some (.int .i64 y.pf) := fun n os => cell_grown hb (by assumption) n os
                  have gr12 : ∀ n os, (Sort.grow (wr.drewN n) os).cell? ⟨b, off + kb * 6 + 5, none⟩ = some (.int .i64 y.pu) := fun n os => cell_grown hb (by assumption) n os
                  have hj0 : (0 : Int) ≤ (j : Int) := Int.natCast_nonneg _
                  have hj1 : (j : Int) < (m : Int) + 1 := by omega
                  have hb0 : (0 : Int) ≤ (kb : Int) := Int.natCast_nonneg _
                  have hb1 : (kb : Int) < (l.length : Int) := by omega
                  have hnn := hn
                  clear hn r0 r1 r2 r3 r4 r5 y0 y1 y2 y3 y4 y5 rc
                  go_wp2_with fail
                  refine wp_region_quiet_grown (by assumption) (by kernel_rfl) ?_
                  repeat (first | go_big_quiet_skip | quiet_step ((first | (go_at_call 23; exact Calls.grown_of (rnewer_at hnn _)))))
                  refine wpQuiet_nil ?_
                  intro _ hw'
                  obtain ⟨⟨nq, osq⟩, hw''⟩ := hw'
                  subst hw''
                  dsimp only
                  have M9 := Lib.hid (M.out.gr ⟨nq, osq, rfl⟩)
                  have rc := cell_grown hgg HRC.out nq osq
                  clear M gr0 gr1 gr2 gr3 gr4 gr5 gr6 gr7 gr8 gr9 gr10 gr11 gr12
                  go_wp2_with fail
                  go_roundw
                  case rel => exact ⟨j + 1, by omega, by omega, by go_num, _, rfl, HB2, M9⟩
                  case measure => simp [intOf]; omega
              · obtain rfl : j = m + 1 := by omega
                obtain ⟨b2, off2, e2, _, y0, y1, y2, y3, y4, y5⟩ := (HRR.out.keep M.out.2.2).at hkb
                obtain ⟨rfl, rfl⟩ : b = b2 ∧ off = off2 := by injection e2 with e2; injection e2 with e2 e3; exact ⟨e2, e3⟩
                clear e2
                rw [HB1.out] at y0 y1 y2 y3 y4 y5
                obtain ⟨A3, c3, hv, hc3', hr3⟩ := M.out.txt
                have hil : (ids wy).length = m + 1 := by simp [ids, HWL.out]
                rw [hil] at hv hc3'
                injection hv with e1 _ e2
                subst e1 e2
                have HE : Hid (SPw (cntO pn day l) door w (.returned (.tuple #[.string (bst wy k HJW.out (m + 1)).to, .slice (some ⟨g2, 0, none⟩) (m + 1) cap2, .int .i64 0])) wr) := Lib.hid ⟨wy, (bst wy k HJW.out (m + 1)).to, some ⟨g2, 0, none⟩, cap2, by simp only [HWL.out], by have h := HC.out; simp only [HWL.out] at h; exact h, by rw [HWL.out]; exact hc3', hr3, M.out.2.2⟩
                clear hc3' hr3 hil
                generalize bst wy k HJW.out (m + 1) = y at *
                go_wp2_with fail
                go_ret3
                exact HE.out
          · have d1 := bytes_ne e
            have HD2 : Hid (∀ j (h : j < wy.length), j < k + 1 → wy[j].fr ≠ o.to) := Lib.hid (fun j h hj => by by_cases ej : j = k; (subst ej; rw [HQ_p.out]; exact e); exact HD.out j h (by omega))
            clear e HD
            go_wp2_with fail
            go_roundw
            case rel => exact ⟨k + 1, by omega, by go_num, HD2, M⟩
            case measure => simp [intOf]; omega
        · obtain rfl : k = m + 1 := by omega
          have HWX := Lib.hid (show Wy (cntO pn day l) door wy o.to ∧ (∀ j (h : j < wy.length), wy[j].fr ≠ o.to) ∧ Ix l wy xy from ⟨HW2.out, fun j h => HD.out j h (by rw [← HWL.out]; exact h), HI2.out⟩)
          clear HD
          have hww := HW2.out.le
          rw [HWL.out] at hww
          go_wp2_with fail
          go_roundw
          case rel => exact ⟨wy, xy, o.to, rfl, ⟨some ⟨g2, 0, none⟩, cap2, by rw [HWL.out]⟩, HWX, M⟩
          case measure => have := HML.out; simp [lenV]; omega
end Go.Proofs.YtngbkdnkpolbfaaDoor
