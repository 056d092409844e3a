/- Lists of binary digits in memory; the contracts of the reference's trim, digits and less. Under no condition but the types' own ranges. -/
import Derived.Test.YtdmddfhjfkdlnaaDoorGa
import Derived.Test.YtdmddfhjfkdlnaaDoorPx
import Derived.Laws.OwnMore
namespace Go.Proofs.YtdmddfhjfkdlnaaDoor
open Go.RowKit

/-- a slice of digits that reads as a list -/
def RdN (w : World) (A : Option Addr) (l : List Nat) : Prop :=
  l = [] ∨ ∃ b off, A = some ⟨b, off, none⟩ ∧ b < w.heap.size ∧ ∀ j (h : j < l.length), w.cell? ⟨b, off + j, none⟩ = some (.int .i64 ((l[j] : Nat) : Int))
theorem RdN.keep {w w' : World} {A : Option Addr} {l : List Nat} (h : RdN w A l) (hb : Below w.heap.size w w') : RdN w' A l := by
  rcases h with h | ⟨b, off, e, hlt, hc⟩
  · exact Or.inl h
  · refine Or.inr ⟨b, off, e, Nat.lt_of_lt_of_le hlt hb.size, fun j hj => ?_⟩
    rw [hb.cell (p := ⟨b, off + j, none⟩) hlt]
    exact hc j hj
theorem RdN.take {w : World} {A : Option Addr} {l : List Nat} (h : RdN w A l) (k : Nat) : RdN w A (l.take k) := by
  rcases h with h | ⟨b, off, e, hlt, hc⟩
  · left; rw [h]; simp
  · refine Or.inr ⟨b, off, e, hlt, fun j hj => ?_⟩
    have hj' : j < l.length := by rw [List.length_take] at hj; omega
    rw [hc j hj', List.getElem_take]
theorem take_last {l : List Nat} {m : Nat} (h : m < l.length) : l.take (m + 1) = l.take m ++ [l[m]] := by
  rw [List.take_succ_eq_append_getElem h]
theorem Dg.take {l : List Nat} (h : Dg l) (k : Nat) : Dg (l.take k) := fun d hd => h d (List.mem_of_mem_take hd)

/-- what hands back digits -/
def DPost (l : List Nat) (w : World) (e : Ending) (w' : World) : Prop := ∃ A c, e = .returned (.slice A l.length c) ∧ (l.length ≤ c ∧ (A = none → c = 0) ∧ ∀ b off, A = some ⟨b, off, none⟩ → w.heap.size ≤ b) ∧ RdN w' A l ∧ Below w.heap.size w w'

set_option maxHeartbeats 1000000 in
theorem trim_any (A : Option Addr) (c : Nat) (l : List Nat) (w : World) (hd : Dg l) (hr : RdN w A l) (hl : l.length ≤ 1000) (hc : l.length ≤ c) :
    Calls Tryd.prog 56 #[.slice A l.length c] w fun e w' => e = .returned (.slice A (trm l).length c) ∧ RdN w A (trm l) ∧ w = w' := by
  have HR := Lib.hid hr
  have HD := Lib.hid hd
  clear hr hd
  go_enter Tryd.func56, Tryd.ntmps56
  go_wp2_with fail
  go_loop [3] (fun t => ∃ k : Nat, k ≤ l.length ∧ t = .int .i64 k ∧ Hid (trm l = trm (l.take k))) (fun t => (intOf t).toNat)
  case atStart => exact ⟨l.length, Nat.le_refl _, rfl, Lib.hid (by rw [List.take_length])⟩
  case round =>
    obtain ⟨k, hk, rfl, HK⟩ := hrel
    rcases Nat.eq_zero_or_pos k with h0 | h0
    · subst h0
      go_wp2_with fail
      go_ret
      refine ⟨?_, Or.inl (by rw [HK.out]; simp [trm, val, bin_zero]), rfl⟩
      rw [HK.out]
      simp [trm, val, bin_zero]
    · obtain ⟨m, rfl⟩ : ∃ m, k = m + 1 := ⟨k - 1, by omega⟩
      rcases HR.out with he | ⟨b, off, rfl, hlt, hcell⟩
      · exfalso; rw [he] at hk; simp at hk
      · have hm := hcell m (by omega)
        have hdm := HD.out l[m] (List.getElem_mem _)
        have HT := Lib.hid (take_last (l := l) (m := m) (by omega))
        clear hcell
        generalize l[m] = x at *
        by_cases hx : x = 0
        · subst hx
          go_wp2_with fail
          go_round
          case rel => exact ⟨m, by omega, by go_num, Lib.hid (by rw [HK.out, HT.out, trm_snoc_zero])⟩
          case measure => simp [intOf]
        · have hx1 : x = 1 := by omega
          subst hx1
          have HE := Lib.hid (show trm l = l.take (m + 1) by rw [HK.out, HT.out, trm_one _ (HD.out.take m)])
          have HLn := Lib.hid (show (l.take (m + 1)).length = m + 1 by rw [List.length_take]; omega)
          go_wp2_with fail
          go_ret
          refine ⟨?_, by rw [HE.out]; exact HR.out.take _, rfl⟩
          rw [HE.out, HLn.out]
          rfl

theorem trm_len (l : List Nat) (h : Dg l) : (trm l).length ≤ l.length := bin_len _ _ (val_lt l h)
/-- the cells of digits -/
def encN (l : List Nat) : List Value := l.map fun (d : Nat) => Value.int .i64 (d : Int)
theorem encN_len (l : List Nat) : (encN l).length = l.length := by unfold encN; simp
theorem encN_app (a b : List Nat) : encN (a ++ b) = encN a ++ encN b := by unfold encN; simp
/-- digits that the call itself has made -/
def OwnN (w0 : World) (acc : List Nat) (v : Value) (wr : World) : Prop := wr.ownsRow w0.heap.size 3 1 v acc.length (encN acc) ∧ Below w0.heap.size w0 wr
theorem OwnN.none (w : World) : OwnN w [] (.slice none 0 0) w := ⟨⟨rfl, Or.inl ⟨rfl, rfl⟩⟩, Below.refl _ _⟩
theorem one_new (w : World) (a : Value) (t : TypeId) : ∀ j u, [a][j]? = some u → (w.alloc (.cells #[a] t)).cell? ((⟨w.heap.size, 0, none⟩ : Addr).add j) = some u := by
  intro j u h
  match j, h with
  | 0, h => simp at h; subst h; simp [Addr.add]
  | j + 1, h => simp at h
theorem OwnN.more {w0 wr w1 : World} {acc : List Nat} {v v' : Value} {x : Nat} {o : Obj} (h : OwnN w0 acc v wr) (hown : w1.ownsRow w0.heap.size 3 1 v' (acc.length + 1) (encN acc ++ [.int .i64 (x : Int)])) (hgrow : (wr.alloc o).grownBy w1 v.ownBlock) : OwnN w0 (acc ++ [x]) v' w1 := by
  obtain ⟨ho, hb⟩ := h
  refine ⟨?_, (hb.alloc hb.size _).grown hgrow (by have := hb.size; simp; omega) (fun k' hk' => ((ho.alloc o).lt k' hk').1)⟩
  rw [encN_app, List.length_append]; exact hown
theorem info3 : (Tryd.prog.info? 3).map (fun i => (i.zero, i.size, i.bytes)) = some (some (.int .i64 0), 1, 8) := by kernel_rfl
theorem encN_at (l : List Nat) (j : Nat) (h : j < l.length) : (encN l)[j]? = some (.int .i64 ((l[j] : Nat) : Int)) := by
  unfold encN; rw [List.getElem?_map, List.getElem?_eq_getElem h]; rfl
theorem OwnN.rd {w0 wr : World} {acc : List Nat} {v : Value} (h : OwnN w0 acc v wr) : ∃ A c, v = .slice A acc.length c ∧ (acc.length ≤ c ∧ (A = Option.none → c = 0) ∧ ∀ b off, A = some ⟨b, off, Option.none⟩ → w0.heap.size ≤ b) ∧ RdN wr A acc := by
  obtain ⟨h, _⟩ := h
  rcases h.2 with ⟨rfl, h0⟩ | ⟨g, cap, cur, rfl, hb, hg, hnc, hm, hs, ht⟩
  · exact ⟨Option.none, 0, by rw [h0], ⟨by omega, fun _ => rfl, fun b off e => by cases e⟩, Or.inl (List.eq_nil_of_length_eq_zero h0)⟩
  · refine ⟨_, _, rfl, ⟨by omega, (fun e => by cases e), fun b off e => by injection e with e; injection e with e1 e2; omega⟩, Or.inr ⟨g, 0, rfl, ?_, fun j hj => ?_⟩⟩
    · rcases Nat.lt_or_ge g wr.heap.size with hlt | hge
      · exact hlt
      · rw [Array.getElem?_eq_none hge] at hg; cases hg
    · have c0 := h.cellAt j (by omega)
      rw [Nat.zero_add, c0]; exact encN_at acc j hj
theorem OwnN.post {w0 wr : World} {acc : List Nat} {v : Value} (h : OwnN w0 acc v wr) : DPost acc w0 (.returned v) wr := by
  obtain ⟨A, c, rfl, h1, h2⟩ := h.rd
  exact ⟨A, c, rfl, h1, h2, h.2⟩

theorem half_abs (k : Int) : (k.tdiv 2).natAbs = k.natAbs / 2 := by rw [Int.natAbs_tdiv]; rfl
theorem mod_abs (k : Int) : (k.tmod 2).natAbs = k.natAbs % 2 := by rw [Int.natAbs_tmod]; rfl
set_option maxHeartbeats 2000000 in
theorem digits_any (n : Int) (w : World) (h0 : -9223372036854775808 ≤ n) (h1 : n ≤ 9223372036854775807) : Calls Tryd.prog 32 #[.int .i64 n] w (DPost (bin n.natAbs) w) := by
  obtain ⟨i0, hi, hz0, hz1, hz2⟩ := info_parts info3
  have HLB := Lib.hid (bin_len n.natAbs 64 (by omega))
  go_enter Tryd.func32, Tryd.ntmps32
  go_wp2_with fail
  go_loopw [0, 3, 4] (fun x v _d wr => ∃ (k : Int) (acc : List Nat), -9223372036854775808 ≤ k ∧ k ≤ 9223372036854775807 ∧ x = .int .i64 k ∧ Hid (bin n.natAbs = acc ++ bin k.natAbs) ∧ Hid (OwnN w acc v wr)) (fun x _ _ _ => (intOf x).natAbs)
  case atStart => exact ⟨n, [], h0, h1, rfl, Lib.hid rfl, Lib.hid (OwnN.none w)⟩
  case round =>
    obtain ⟨k, acc, hk0, hk1, rfl, HK, HO⟩ := hrel
    by_cases hk : k = 0
    · subst hk
      have b0 : ((0 : Int) != 0) = false := rfl
      go_wp2_with fail
      go_ret
      have := HK.out
      rw [show (0 : Int).natAbs = 0 from rfl, bin_zero, List.append_nil] at this
      rw [this]
      exact HO.out.post
    · have b0 : (k != 0) = true := by simp [hk]
      have HB := Lib.hid (bin_pos (n := k.natAbs) (by omega))
      have hlen : acc.length ≤ 64 := by have a := HLB.out; rw [HK.out, List.length_append] at a; omega
      have hm := mod_abs k
      have hd := half_abs k
      have hbd : -9223372036854775808 ≤ k.tdiv 2 ∧ k.tdiv 2 ≤ 9223372036854775807 ∧ (k.tdiv 2).natAbs < k.natAbs := by omega
      obtain ⟨t, ht⟩ : ∃ t, k.tdiv 2 = t := ⟨_, rfl⟩
      obtain ⟨m, hmm⟩ : ∃ m, k.tmod 2 = m := ⟨_, rfl⟩
      rw [ht] at hd hbd
      rw [hmm] at hm
      obtain ⟨t0, t1, t2⟩ := hbd
      have w1 : IntKind.i64.wrap t = t := IntWalk.i64_in _ (by omega)
      have w2 : IntKind.i64.wrap m = m := IntWalk.i64_in _ (by omega)
      obtain ⟨x, hx⟩ : ∃ x, x = k.natAbs % 2 := ⟨_, rfl⟩
      have HN := Lib.hid (show acc ++ bin k.natAbs = (acc ++ [x]) ++ bin t.natAbs by rw [HB.out, hd, hx]; simp)
      have hxm : m.natAbs = x := by rw [hm, hx]
      have hxb : x ≤ 1 := by omega
      clear hm hd hx
      by_cases hneg : m < 0
      · have e : -m = (x : Int) := by omega
        have d1 : decide (m < 0) = true := decide_eq_true hneg
        have HX := Lib.hid hxm
        clear hxm
        go_wp2_with (at_builtin; refine wpList_append_own _ rfl _ _ 45 rfl w.heap.size 3 i0 _ 1 8 Tryd.underlying45 hi hz0 hz1 hz2 rfl (by decide) _ acc.length (encN acc) rfl (HO.out.1.alloc _) ⟨wr.heap.size, 0, none⟩ 1 1 [.int .i64 (x : Int)] rfl rfl (one_new _ _ _) (by intro u hu; simp at hu; subst hu; rfl) (by unfold maxLen; omega) (by omega) (by have := HO.out.2.size; simp; omega) ?_; intro v' w5 hown' hgrow' _)
        have HO' := Lib.hid (HO.out.more hown' hgrow')
        clear hown' hgrow'
        go_wp2_with fail
        go_roundw
        case rel => exact ⟨t, acc ++ [x], t0, t1, rfl, Lib.hid (HK.out.trans HN.out), HO'⟩
        case measure => simp [intOf]; omega
      · have d1 : decide (m < 0) = false := decide_eq_false hneg
        obtain rfl : m = (x : Int) := by omega
        clear hxm
        go_wp2_with (at_builtin; refine wpList_append_own _ rfl _ _ 45 rfl w.heap.size 3 i0 _ 1 8 Tryd.underlying45 hi hz0 hz1 hz2 rfl (by decide) _ acc.length (encN acc) rfl (HO.out.1.alloc _) ⟨wr.heap.size, 0, none⟩ 1 1 [.int .i64 (x : Int)] rfl rfl (one_new _ _ _) (by intro u hu; simp at hu; subst hu; rfl) (by unfold maxLen; omega) (by omega) (by have := HO.out.2.size; simp; omega) ?_; intro v' w5 hown' hgrow' _)
        have HO' := Lib.hid (HO.out.more hown' hgrow')
        clear hown' hgrow'
        go_wp2_with fail
        go_roundw
        case rel => exact ⟨t, acc ++ [x], t0, t1, rfl, Lib.hid (HK.out.trans HN.out), HO'⟩
        case measure => simp [intOf]; omega
end Go.Proofs.YtdmddfhjfkdlnaaDoor
