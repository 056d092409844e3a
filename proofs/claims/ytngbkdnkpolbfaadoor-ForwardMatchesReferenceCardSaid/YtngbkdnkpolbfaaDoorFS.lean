/- The contracts of the laws' small functions: Few, short, Texts, find, Newer, order. Under no condition but sizes. -/
import Derived.Test.YtngbkdnkpolbfaaDoorFJ
import Derived.Test.YtngbkdnkpolbfaaDoorFI
namespace Go.Proofs.YtngbkdnkpolbfaaDoor
open Go.RowKit Go.Maps

/-- an order with short texts -/
def sm60 (o : Ord) : Bool := decide (o.id.size ≤ 60 ∧ o.pn.size ≤ 60 ∧ o.fr.size ≤ 60 ∧ o.to.size ≤ 60)
/-- few orders with short texts -/
def fewB (l : List Ord) : Bool := decide (l.length ≤ 30) && l.all sm60
theorem few_fall (l : List Ord) (k : Nat) (h : (l.take k).all sm60 = false) : fewB l = false := by
  unfold fewB
  have e : l = l.take k ++ l.drop k := (List.take_append_drop k l).symm
  have : l.all sm60 = false := by rw [e, List.all_append, h, Bool.false_and]
  rw [this, Bool.and_false]
theorem few_take (l : List Ord) (k : Nat) (h : k < l.length) (hk : (l.take k).all sm60 = true) : (l.take (k + 1)).all sm60 = sm60 l[k] := by
  rw [List.take_succ_eq_append_getElem h, List.all_append, hk]; simp
theorem few_end (l : List Ord) (h : l.length ≤ 30) (hk : (l.take l.length).all sm60 = true) : fewB l = true := by
  rw [List.take_length] at hk; unfold fewB; rw [hk, decide_eq_true h]; rfl
theorem few_many (l : List Ord) (h : 30 < l.length) : fewB l = false := by
  unfold fewB; rw [decide_eq_false (by omega)]; rfl
theorem few_len {l : List Ord} (h : fewB l = true) : l.length ≤ 30 := by
  unfold fewB at h; rw [Bool.and_eq_true, decide_eq_true_iff] at h; exact h.1
theorem few_mem {l : List Ord} (h : fewB l = true) {o : Ord} (ho : o ∈ l) : o.id.size ≤ 60 ∧ o.pn.size ≤ 60 ∧ o.fr.size ≤ 60 ∧ o.to.size ≤ 60 := by
  unfold fewB at h; rw [Bool.and_eq_true] at h
  have := List.all_eq_true.1 h.2 o ho
  unfold sm60 at this
  exact of_decide_eq_true this

set_option maxHeartbeats 4000000 in
set_option maxRecDepth 100000 in
theorem few_any (A : Option Addr) (c : Nat) (l : List Ord) (w : World) (hr : RdO w A l) :
    Calls Tryd.prog 10 #[.slice A l.length c] w fun e w' => e = .returned (.bool (fewB l)) ∧ w = w' := by
  have HR := Lib.hid hr
  have HF := Lib.hid (few_fall l)
  have HT := Lib.hid (few_take l)
  have HX := Lib.hid (few_end l)
  have HY := Lib.hid (few_many l)
  clear hr
  generalize fewB l = B at *
  go_enter Tryd.func10, Tryd.ntmps10
  go_wp2_with fail
  go_loop [3] (fun iv => ∃ k : Nat, k ≤ l.length ∧ k ≤ 30 ∧ iv = .int .i64 k ∧ Hid ((l.take k).all sm60 = true)) (fun i => 30 - (intOf i).toNat)
  case atStart => exact ⟨0, by omega, by omega, rfl, Lib.hid rfl⟩
  case round =>
    obtain ⟨k, hk, hk3, rfl, HK⟩ := hrel
    by_cases hlt : k < l.length
    · by_cases h30 : k < 30
      · have HS := Lib.hid (HT.out k hlt HK.out)
        rcases HR.out with he | ⟨b, off, rfl, hbl, hcell⟩
        · exfalso; rw [he] at hlt; simp at hlt
        obtain ⟨c0, c1, c2, c3, c4, c5⟩ := hcell k hlt
        have HB : Hid (sm60 l[k] = false → B = false) := Lib.hid (fun h => HF.out (k + 1) (by rw [HS.out]; exact h))
        clear hcell HT HX HY HF HR HK
        obtain ⟨o, ho⟩ : ∃ o, l[k] = o := ⟨_, rfl⟩
        rw [ho] at c0 c1 c2 c3 c4 c5 HS HB
        clear ho
        by_cases h1 : o.id.size ≤ 60
        · have i1 : ¬ (60 : Int) < (o.id.size : Int) := by omega
          by_cases h2 : o.pn.size ≤ 60
          · have i2 : ¬ (60 : Int) < (o.pn.size : Int) := by omega
            by_cases h3 : o.fr.size ≤ 60
            · have i3 : ¬ (60 : Int) < (o.fr.size : Int) := by omega
              by_cases h4 : o.to.size ≤ 60
              · have i4 : ¬ (60 : Int) < (o.to.size : Int) := by omega
                have HN := Lib.hid (show sm60 o = true by unfold sm60; simp [h1, h2, h3, h4])
                go_wp2_with fail
                exact ⟨⟨k + 1, by omega, by omega, by go_num, Lib.hid (HS.out.trans HN.out)⟩, by simp [intOf]; omega⟩
              · have i4 : (60 : Int) < (o.to.size : Int) := by omega
                have HN := Lib.hid (HB.out (by unfold sm60; simp [h4]))
                go_wp2_with fail
                go_ret
                exact ⟨by rw [HN.out]; rfl, rfl⟩
            · have i3 : (60 : Int) < (o.fr.size : Int) := by omega
              have HN := Lib.hid (HB.out (by unfold sm60; simp [h3]))
              go_wp2_with fail
              go_ret
              exact ⟨by rw [HN.out]; rfl, rfl⟩
          · have i2 : (60 : Int) < (o.pn.size : Int) := by omega
            have HN := Lib.hid (HB.out (by unfold sm60; simp [h2]))
            go_wp2_with fail
            go_ret
            exact ⟨by rw [HN.out]; rfl, rfl⟩
        · have i1 : (60 : Int) < (o.id.size : Int) := by omega
          have HN := Lib.hid (HB.out (by unfold sm60; simp [h1]))
          go_wp2_with fail
          go_ret
          exact ⟨by rw [HN.out]; rfl, rfl⟩
      · have h30' : decide ((k : Int) < 30) = false := by simp; omega
        have hm : 30 < l.length := by omega
        have HN := Lib.hid (HY.out hm)
        clear HR HF HT HX HY HK
        go_wp2_with fail
        go_ret
        exact ⟨by rw [HN.out]; simp; omega, rfl⟩
    · obtain rfl : k = l.length := by omega
      have HN := Lib.hid (HX.out hk3 HK.out)
      clear HR HF HT HX HY HK
      go_wp2_with fail
      go_ret
      exact ⟨by rw [HN.out]; simp; omega, rfl⟩
theorem few_at {A : Option Addr} {c : Nat} {l : List Ord} {b : Bool} (h : fewB l = b) (w : World) (hr : RdO w A l) :
    Calls Tryd.prog 10 #[.slice A l.length c] w fun e w' => e = .returned (.bool b) ∧ w = w' := by
  rw [← h]; exact few_any A c l w hr

/-- two short texts -/
def shB (x y : ByteArray) : Bool := decide (x.size ≤ 60 ∧ y.size ≤ 60)
set_option maxHeartbeats 4000000 in
set_option maxRecDepth 100000 in
theorem short_any (b : Nat) (x y : ByteArray) (w : World) (h0 : w.cell? ⟨b, 0, none⟩ = some (.string x)) (h1 : w.cell? ⟨b, 1, none⟩ = some (.string y)) :
    Calls Tryd.prog 11 #[.slice (some ⟨b, 0, none⟩) 2 2] w fun e w' => e = .returned (.bool (shB x y)) ∧ w = w' := by
  have HS := Lib.hid (show shB x y = decide (x.size ≤ 60 ∧ y.size ≤ 60) from rfl)
  generalize shB x y = B at *
  go_enter Tryd.func11, Tryd.ntmps11
  go_wp2_with fail
  go_loop [3] (fun iv => ∃ k : Nat, k ≤ 2 ∧ iv = .int .i64 k ∧ Hid ((0 < k → x.size ≤ 60) ∧ (1 < k → y.size ≤ 60))) (fun i => 2 - (intOf i).toNat)
  case atStart => exact ⟨0, by omega, rfl, Lib.hid ⟨fun h => by omega, fun h => by omega⟩⟩
  case round =>
    obtain ⟨k, hk, rfl, HK⟩ := hrel
    match k, hk with
    | 0, _ =>
      by_cases hx : x.size ≤ 60
      · have i1 : ¬ (60 : Int) < (x.size : Int) := by omega
        go_wp2_with fail
        exact ⟨⟨1, by omega, rfl, Lib.hid ⟨fun _ => hx, fun h => by omega⟩⟩, by decide⟩
      · have i1 : (60 : Int) < (x.size : Int) := by omega
        have HN : Hid (B = false) := Lib.hid (by rw [HS.out]; simp; omega)
        go_wp2_with fail
        go_ret
        exact ⟨by rw [HN.out]; rfl, rfl⟩
    | 1, _ =>
      by_cases hx : y.size ≤ 60
      · have i1 : ¬ (60 : Int) < (y.size : Int) := by omega
        go_wp2_with fail
        exact ⟨⟨2, by omega, rfl, Lib.hid ⟨fun _ => HK.out.1 (by omega), fun h => hx⟩⟩, by decide⟩
      · have i1 : (60 : Int) < (y.size : Int) := by omega
        have HN : Hid (B = false) := Lib.hid (by rw [HS.out]; simp; omega)
        go_wp2_with fail
        go_ret
        exact ⟨by rw [HN.out]; rfl, rfl⟩
    | 2, _ =>
      have HN : Hid (B = true) := Lib.hid (by rw [HS.out]; simp; exact ⟨HK.out.1 (by omega), HK.out.2 (by omega)⟩)
      go_wp2_with fail
      go_ret
      exact ⟨by rw [HN.out]; rfl, rfl⟩
    | k + 3, h => omega
theorem short_at {b : Nat} {x y : ByteArray} {r : Bool} (h : shB x y = r) (w : World) (h0 : w.cell? ⟨b, 0, none⟩ = some (.string x)) (h1 : w.cell? ⟨b, 1, none⟩ = some (.string y)) :
    Calls Tryd.prog 11 #[.slice (some ⟨b, 0, none⟩) 2 2] w fun e w' => e = .returned (.bool r) ∧ w = w' := by
  rw [← h]; exact short_any b x y w h0 h1

theorem bytes_ne {x y : ByteArray} (h : x ≠ y) : (x.toList == y.toList) = false := by
  rw [beq_eq_false_iff_ne, ByteArray.toList_eq, ByteArray.toList_eq]; exact fun e => h (ByteArray.ext (Array.toList_inj.1 e))
theorem bytes_eq {x y : ByteArray} (h : x = y) : (x.toList == y.toList) = true := by rw [h]; simp
theorem bytes_nb {x y : ByteArray} (h : x = y) : (x.toList != y.toList) = false := by rw [h]; simp
theorem bytes_nn {x y : ByteArray} (h : x ≠ y) : (x.toList != y.toList) = true := by unfold bne; rw [bytes_ne h]; rfl

set_option maxHeartbeats 4000000 in
set_option maxRecDepth 100000 in
/-- find of an order that is there -/
theorem find_at (A : Option Addr) (c : Nat) (l : List Ord) (w : World) (hr : RdO w A l) (hl : l.length ≤ 1000) (hn : (ids l).Nodup) (j : Nat) (hj : j < l.length) (x : ByteArray) (hx : l[j].id = x) :
    Calls Tryd.prog 21 #[.slice A l.length c, .string x] w fun e w' => e = .returned (.int .i64 (j : Int)) ∧ w = w' := by
  have HD : Hid (∀ k (h : k < j), l[k].id ≠ x) := Lib.hid (fun k h e => by
    have h1 : (ids l)[k]'(by unfold ids; simp; omega) = l[k].id := by simp [ids]
    have h2 : (ids l)[j]'(by unfold ids; simp; omega) = l[j].id := by simp [ids]
    have := (List.pairwise_iff_getElem.1 hn) k j (by unfold ids; simp; omega) (by unfold ids; simp; omega) h
    rw [h1, h2] at this
    exact this (e.trans hx.symm))
  have HX := Lib.hid hx
  rcases hr with he | ⟨b, off, rfl, hbl, hcell⟩
  · exfalso; rw [he] at hj; simp at hj
  have HC := Lib.hid hcell
  clear hcell hx hn
  go_enter Tryd.func21, Tryd.ntmps21
  go_wp2_with fail
  go_loop [5] (fun iv => ∃ k : Nat, k ≤ j ∧ iv = .int .i64 k) (fun i => j - (intOf i).toNat)
  case atStart => exact ⟨0, by omega, rfl⟩
  case round =>
    obtain ⟨k, hk, rfl⟩ := hrel
    have hlt : k < l.length := by omega
    obtain ⟨c0, _⟩ := HC.out k hlt
    by_cases e : k = j
    · subst e
      have b0 := bytes_eq HX.out
      clear HC HD HX
      generalize l[k].id = y at *
      go_wp2_with fail
      go_ret
      exact ⟨rfl, rfl⟩
    · have b0 := bytes_ne (HD.out k (by omega))
      clear HC HD
      generalize l[k].id = y at *
      go_wp2_with fail
      exact ⟨⟨k + 1, by omega, by go_num⟩, by simp [intOf]; omega⟩

set_option maxHeartbeats 1000000 in
theorem rnewer_any (a b : Ord) (w : World) : Calls Tryd.prog 23 #[.agg (encO a), .agg (encO b)] w fun e w' => e = .returned (.bool (nwB a b)) ∧ Gr w w' := by
  rcases (show b.pf < a.pf ∨ a.pf = b.pf ∨ a.pf < b.pf by omega) with h | h | h
  · have HN := Lib.hid (show nwB a b = true by unfold nwB; rw [if_neg (by omega), decide_eq_true h])
    go_enter Tryd.func23, Tryd.ntmps23
    go_wp2_with fail
    go_ret
    exact ⟨by rw [HN.out]; rfl, (Gr.one _ _).alloc _⟩
  · have b0 : (a.pf == b.pf) = true := by rw [h]; simp
    have b1 : decide (b.pf < a.pf) = false := by rw [h]; simp
    have HN := Lib.hid (show nwB a b = (!Op.bytesLess a.id.toList b.id.toList && !(a.id.toList == b.id.toList)) from if_pos h)
    clear h
    go_enter Tryd.func23, Tryd.ntmps23
    go_wp2_with fail
    go_ret
    exact ⟨by rw [HN.out]; rfl, (Gr.one _ _).alloc _⟩
  · have b0 : (a.pf == b.pf) = false := by rw [beq_eq_false_iff_ne]; omega
    have b1 : decide (b.pf < a.pf) = false := by simp; omega
    have HN := Lib.hid (show nwB a b = false by unfold nwB; rw [if_neg (by omega), decide_eq_false (by omega)])
    clear h
    go_enter Tryd.func23, Tryd.ntmps23
    go_wp2_with fail
    go_ret
    exact ⟨by rw [HN.out]; rfl, (Gr.one _ _).alloc _⟩
theorem rnewer_at {a b : Ord} {r : Bool} (h : nwB a b = r) (w : World) : Calls Tryd.prog 23 #[.agg (encO a), .agg (encO b)] w fun e w' => e = .returned (.bool r) ∧ Gr w w' := by
  rw [← h]; exact rnewer_any a b w

/-- the name of anna -/
abbrev annaT : ByteArray := ⟨#[97, 110, 110, 97]⟩
set_option maxHeartbeats 1000000 in
theorem order_any (x y z : ByteArray) (d : Int) (w : World) : Calls Tryd.prog 25 #[.string x, .string y, .string z, .int .i64 d] w fun e w' => e = .returned (.agg (encO ⟨x, annaT, y, z, d, -1⟩)) ∧ Gr w w' := by
  go_enter Tryd.func25, Tryd.ntmps25
  go_wp2_with fail
  exact bodyPost_ret (v := .agg (encO ⟨x, annaT, y, z, d, -1⟩)) (by simp [results, Tryd.results25, go_sem]) rfl ⟨rfl, Gr.one _ _⟩

set_option maxHeartbeats 4000000 in
set_option maxRecDepth 100000 in
theorem texts_same (A B : Option Addr) (c d : Nat) (a : List ByteArray) (w : World) (h1 : RdS w A a) (h2 : RdS w B a) (hl : a.length ≤ 1000) :
    Calls Tryd.prog 20 #[.slice A a.length c, .slice B a.length d] w fun e w' => e = .returned (.bool true) ∧ Gr w w' := by
  have b0 : ((a.length : Int) != (a.length : Int)) = false := by simp
  have HA := Lib.hid h1
  have HB := Lib.hid h2
  clear h1 h2
  go_enter Tryd.func20, Tryd.ntmps20
  go_wp2_with fail
  go_loopw [5] (fun iv wr => ∃ k : Nat, k ≤ a.length ∧ iv = .int .i64 k ∧ Hid (Gr w wr)) (fun i _ => a.length - (intOf i).toNat)
  case atStart => exact ⟨0, by omega, rfl, Lib.hid (Gr.refl w)⟩
  case round =>
    obtain ⟨k, hk, rfl, HG⟩ := hrel
    by_cases hlt : k < a.length
    · rcases HA.out with he | ⟨b, off, rfl, hbl, hcell⟩
      · exfalso; rw [he] at hlt; simp at hlt
      rcases HB.out with he | ⟨b', off', rfl, hbl', hcell'⟩
      · exfalso; rw [he] at hlt; simp at hlt
      have x0 := HG.out.cell hbl (hcell k hlt)
      have x1 := HG.out.cell hbl' (hcell' k hlt)
      clear hcell hcell' HA HB
      generalize a[k] = y at *
      go_wp2_with fail
      go_quiet (fail)
      have HG2 := Lib.hid (HG.out.trans (Gr.drewN wr nq))
      go_wp2_with fail
      go_roundw
      case rel => exact ⟨k + 1, by omega, by go_num, HG2⟩
      case measure => simp [intOf]; omega
    · obtain rfl : k = a.length := by omega
      go_wp2_with fail
      go_ret
      exact ⟨rfl, HG.out⟩
end Go.Proofs.YtngbkdnkpolbfaaDoor
