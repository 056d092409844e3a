/- The contracts of Same and of the laws' text. Under no condition but sizes. -/
/- The contract of the text of zeros that the laws make. Under no condition but sizes. -/
/- The operations that the laws are given, in memory; the contract of light. Under the condition that each string is shorter than 2^48 bytes. -/
import Derived.Test.YtihoomlaggihlaaGreatDoorKU
import Derived.Test.YtihoomlaggihlaaGreatDoorJW
namespace Go.Proofs.YtihoomlaggihlaaGreatDoor
open Go.RowKit

theorem same_ne {xs ys : List (List UInt8)} {k : Nat} (h1 : k < xs.length) (h2 : k < ys.length) (h : xs[k] ≠ ys[k]) : decide (xs = ys) = false := by
  apply decide_eq_false
  intro e
  subst e
  exact h rfl
theorem same_eq {xs ys : List (List UInt8)} (hl : xs.length = ys.length) (h : ∀ j (h1 : j < xs.length) (h2 : j < ys.length), xs[j] = ys[j]) : decide (xs = ys) = true := by
  apply decide_eq_true
  exact List.ext_getElem hl (fun j h1 h2 => h j h1 h2)
set_option maxHeartbeats 4000000 in
set_option maxRecDepth 100000 in
theorem same_any (w : World) (F : Nat → Prop) (v u : Value) (xs ys : List (List UInt8)) (hv : SR w F v xs) (hu : SR w F u ys) (hm : xs.length ≤ 1000000) :
    Calls Tryz.prog 15 #[v, u] w fun e w' => e = .returned (.bool (decide (xs = ys))) ∧ Below w.heap.size w w' := by
  have HV := Lib.hid hv
  have HU := Lib.hid hu
  obtain ⟨a, c, rfl, _⟩ := hv
  obtain ⟨a', c', rfl, _⟩ := hu
  by_cases hl : xs.length = ys.length
  · have hli : (xs.length : Int) = (ys.length : Int) := by omega
    go_enter Tryz.func15, Tryz.ntmps15
    go_wp2_with fail
    obtain ⟨wo, rfl⟩ : ∃ wo : World, wo = w := ⟨_, rfl⟩
    go_loopw [5] (fun i wr => ∃ (k : Nat), k ≤ xs.length ∧ i = .int .i64 k ∧ Below wo.heap.size wo wr ∧ Hid (∀ j (h1 : j < xs.length) (h2 : j < ys.length), j < k → xs[j] = ys[j])) (fun i _ => xs.length - (intOf i).toNat)
    case atStart => exact ⟨0, by omega, rfl, Below.refl _ _, Lib.hid fun j _ _ h => absurd h (Nat.not_lt_zero _)⟩
    case round =>
      obtain ⟨k, hk, rfl, hb, M⟩ := hrel
      have hk0 : (0 : Int) ≤ (k : Int) := Int.natCast_nonneg _
      have HB := Lib.hid hb
      by_cases hlt : k < xs.length
      · have hlt2 : k < ys.length := by omega
        obtain ⟨a1, c1, e1, _, hcs⟩ := HV.out.below hb
        cases e1
        obtain ⟨b, o, rfl, _, hcell⟩ := hcs k hlt
        obtain ⟨a2, c2, e2, _, hcs2⟩ := HU.out.below hb
        cases e2
        obtain ⟨b2, o2, rfl, _, hcell2⟩ := hcs2 k hlt2
        have hk1 : (k : Int) < (xs.length : Int) := by omega
        have hk2 : (k : Int) < (ys.length : Int) := by omega
        clear hcs hcs2 hb
        by_cases he : xs[k] = ys[k]
        · have hee : (xs[k] == ys[k]) = true := by simpa using he
          have M2 : Hid (∀ j (h1 : j < xs.length) (h2 : j < ys.length), j < k + 1 → xs[j] = ys[j]) := Lib.hid fun j h1 h2 h => by
            rcases Nat.lt_or_ge j k with e | e
            · exact M.out j h1 h2 e
            · obtain rfl : j = k := by omega
              exact he
          clear he
          go_wp2_with fail
          go_quiet (fail)
          go_wp2_with fail
          go_roundw
          case rel => exact ⟨k + 1, by omega, by go_num, below_drewN HB.out _, M2⟩
          case measure => simp [intOf]; omega
        · have hee : (xs[k] == ys[k]) = false := by simpa using he
          have HS := Lib.hid (same_ne hlt hlt2 he)
          clear he
          go_wp2_with fail
          go_quiet (fail)
          go_wp2_with fail
          go_ret
          exact ⟨by rw [HS.out]; rfl, below_drewN HB.out _⟩
      · obtain rfl : k = xs.length := by omega
        have HS := Lib.hid (same_eq hl fun j h1 h2 => M.out j h1 h2 h1)
        clear hb
        go_wp2_with fail
        go_ret
        exact ⟨by rw [HS.out]; rfl, HB.out⟩
  · have hli : ¬ (xs.length : Int) = (ys.length : Int) := by omega
    have HS := Lib.hid (show decide (xs = ys) = false from decide_eq_false (fun e => hl (by rw [e])))
    go_enter Tryz.func15, Tryz.ntmps15
    go_wp2_with fail
    go_ret
    exact ⟨by rw [HS.out]; rfl, Below.refl _ _⟩
end Go.Proofs.YtihoomlaggihlaaGreatDoor

namespace Go.Proofs.YtihoomlaggihlaaGreatDoor
open Go.RowKit
set_option maxHeartbeats 4000000 in
set_option maxRecDepth 100000 in
theorem text_n (w : World) (n : Nat) (h1 : 1 ≤ n) (h2 : n ≤ 100000) :
    Calls Tryz.prog 31 #[.int .i64 n] w fun e w' => e = .returned (.string ⟨(List.replicate n (0 : UInt8)).toArray⟩) ∧ Below w.heap.size w w' := by
  obtain ⟨i5, hi5, ha5, hb5, hc5⟩ := info_parts info5
  have g1 : (1 : Int) ≤ (n : Int) := by omega
  have g2 : (n : Int) ≤ 100000 := by omega
  have HC := Lib.hid hc5
  go_enter Tryz.func31, Tryz.ntmps31
  go_wp2_with (at_make; refine wpList_make_full _ rfl _ _ 56 rfl 0 5 i5 _ 1 Tryz.underlying56 hi5 ha5 hb5 .i64 .i64 _ _ n rfl rfl (by omega) (by omega) (by rw [HC.out]; omega) (by unfold maxLen; omega) (by omega) ?_; intro w1 ho1 hg1)
  have hb1 : Below w.heap.size w w1 := ⟨hg1.os, hg1.tape, hg1.output, hg1.size, fun k hk => hg1.block k hk (by simp)⟩
  have HB := Lib.hid hb1
  have e1 : (madeCells (Value.int IntKind.u8 0).cells (n * 1)).toList = bytesV (List.replicate n (0 : UInt8)) := by
    show (madeCells #[Value.int IntKind.u8 0] (n * 1)).toList = _
    rw [toList_madeCells_one, Nat.mul_one]
    simp [bytesV]
  have hs1 : w1.heap[w.heap.size]? = some (.cells (bytesV (List.replicate n (0 : UInt8))).toArray 5 (0, 0)) := by
    rcases ho1.2 with ⟨h, _⟩ | ⟨g, cap, cur, hv, _, hg, hc, _, hz, ht⟩
    · cases h
    · cases hv
      rw [hg]
      have : cur.toList = bytesV (List.replicate n (0 : UInt8)) := by
        rw [← e1, ← ht, List.take_of_length_le (by rw [Array.length_toList, hz]; exact Nat.le_refl _)]
      rw [← this]
  have kc := run_convert_bytes_back (P := Tryz.prog) w1 56 9 5 ⟨w.heap.size, 0, none⟩ n (List.replicate n (0 : UInt8)) Tryz.underlying56 Tryz.underlying5 Tryz.underlying9 (fun j hj => by
    have hadd : (⟨w.heap.size, 0, none⟩ : Addr).add j = ⟨w.heap.size, j, none⟩ := by unfold Addr.add; split <;> simp_all
    rw [hadd]
    refine cell_at hs1 ?_
    rw [List.getElem?_toArray]
    simp only [List.length_replicate] at hj
    simp [bytesV, hj])
  rw [List.length_replicate] at kc
  clear e1 hs1
  generalize hz : List.replicate n (0 : UInt8) = z at kc
  have HZ := Lib.hid hz
  clear hz
  clear ho1 hg1 hb1
  rw [kc]
  simp only [Result.andThen, Oper.upon]
  go_wp2_with fail
  go_ret
  exact ⟨by rw [HZ.out]; rfl, HB.out⟩
end Go.Proofs.YtihoomlaggihlaaGreatDoor

namespace Go.Proofs.YtihoomlaggihlaaGreatDoor
open Go.RowKit

/-- an operation -/
structure ROp where
  kind : Int
  list : List (List UInt8)
  spot : Int
  writes : Int
  bytes : Int
/-- operations in memory -/
def RdP (w : World) (A : Option Addr) (l : List ROp) : Prop := ∀ k (hk : k < l.length), ∃ b o sv, A = some ⟨b, o, none⟩ ∧
  w.cell? ⟨b, o + k * 5, none⟩ = some (.int .i64 l[k].kind) ∧ w.cell? ⟨b, o + k * 5 + 1, none⟩ = some sv ∧ w.cell? ⟨b, o + k * 5 + 2, none⟩ = some (.int .i64 l[k].spot) ∧ w.cell? ⟨b, o + k * 5 + 3, none⟩ = some (.int .i64 l[k].writes) ∧ w.cell? ⟨b, o + k * 5 + 4, none⟩ = some (.int .i64 l[k].bytes) ∧ SR w (fun _ => False) sv l[k].list
theorem RdP.below {w w' : World} {A : Option Addr} {l : List ROp} (h : RdP w A l) (hb : Below w.heap.size w w') : RdP w' A l := fun k hk => by
  obtain ⟨b, o, sv, e, h0, h1, h2, h3, h4, h5⟩ := h k hk
  have hl : b < w.heap.size := cell_lt h0
  exact ⟨b, o, sv, e, (hb.cell (p := ⟨b, o + k * 5, none⟩) hl).trans h0, (hb.cell (p := ⟨b, o + k * 5 + 1, none⟩) hl).trans h1, (hb.cell (p := ⟨b, o + k * 5 + 2, none⟩) hl).trans h2, (hb.cell (p := ⟨b, o + k * 5 + 3, none⟩) hl).trans h3, (hb.cell (p := ⟨b, o + k * 5 + 4, none⟩) hl).trans h4, h5.below hb⟩
/-- the bytes of records -/
def sumLen (l : List (List UInt8)) : Nat := (l.map List.length).sum
def total (l : List ROp) : Nat := (l.map fun o => sumLen o.list).sum
/-- a case that a law runs whole -/
structure Light (s : Int) (l : List ROp) : Prop where
  s40 : s ≤ 40
  l16 : l.length ≤ 16
  l20 : ∀ o ∈ l, o.list.length ≤ 20
  sum : total l ≤ 6000
theorem sumLen_take (l : List (List UInt8)) (k : Nat) (hk : k < l.length) : sumLen (l.take (k + 1)) = sumLen (l.take k) + l[k].length := by
  rw [← List.take_append_getElem hk]
  simp only [sumLen, List.map_append, List.map_cons, List.map_nil, List.sum_append, List.sum_cons, List.sum_nil, Nat.add_zero]
theorem total_take (l : List ROp) (k : Nat) (hk : k < l.length) : total (l.take (k + 1)) = total (l.take k) + sumLen l[k].list := by
  rw [← List.take_append_getElem hk]
  simp only [total, List.map_append, List.map_cons, List.map_nil, List.sum_append, List.sum_cons, List.sum_nil, Nat.add_zero]
theorem sumLen_le (l : List (List UInt8)) (k : Nat) : sumLen (l.take k) ≤ sumLen l := by
  conv => rhs; rw [← List.take_append_drop k l]
  simp only [sumLen, List.map_append, List.sum_append]
  omega
theorem sum_mem {l : List (List UInt8)} {t : List UInt8} (h : t ∈ l) : t.length ≤ sumLen l := by
  obtain ⟨k, hk, rfl⟩ := List.getElem_of_mem h
  have := sumLen_take l k hk
  have := sumLen_le l (k + 1)
  omega
/-- a loop of light, so far -/
structure LightK (s : Int) (l : List ROp) (k : Nat) (tot : Int) : Prop where
  s40 : s ≤ 40
  l16 : l.length ≤ 16
  l20 : ∀ j (hj : j < l.length), j < k → l[j].list.length ≤ 20
  sum : tot = (total (l.take k) : Int)
  le : tot ≤ 6000
theorem LightK.done {s : Int} {l : List ROp} {tot : Int} (h : LightK s l l.length tot) : Light s l := by
  refine ⟨h.s40, h.l16, fun o ho => ?_, ?_⟩
  · obtain ⟨j, hj, rfl⟩ := List.getElem_of_mem ho
    exact h.l20 j hj hj
  · have := h.sum
    have := h.le
    rw [List.take_length] at *
    omega
def LightPost (w : World) (s : Int) (l : List ROp) (e : Ending) (w' : World) : Prop := ∃ b : Bool, e = .returned (.bool b) ∧ Below w.heap.size w w' ∧ (b = true → Light s l)
theorem LightPost.no {w : World} {s : Int} {l : List ROp} : LightPost w s l (.returned (.bool false)) w := ⟨false, rfl, Below.refl _ _, fun e => by cases e⟩
theorem LightPost.yes {w : World} {s : Int} {l : List ROp} (h : Light s l) : LightPost w s l (.returned (.bool true)) w := ⟨true, rfl, Below.refl _ _, fun _ => h⟩
set_option maxHeartbeats 8000000 in
set_option maxRecDepth 100000 in
theorem light_any (w : World) (A : Option Addr) (c : Nat) (s : Int) (l : List ROp) (h : RdP w A l) (hS : ∀ o ∈ l, ∀ t ∈ o.list, t.length ≤ 281474976710656) :
    Calls Tryz.prog 6 #[.int .i64 s, .slice A l.length c] w (LightPost w s l) := by
  have HR := Lib.hid h
  have HS := Lib.hid hS
  clear h hS
  by_cases h40 : 40 < s
  · have h40' : decide ((40 : Int) < s) = true := by simpa using h40
    go_enter Tryz.func6, Tryz.ntmps6
    go_wp2_with fail
    go_ret
    exact LightPost.no
  · have h40' : decide ((40 : Int) < s) = false := by simpa using h40
    by_cases h16 : 16 < l.length
    · have h16' : (16 : Int) < (l.length : Int) := by omega
      go_enter Tryz.func6, Tryz.ntmps6
      go_wp2_with fail
      go_ret
      exact LightPost.no
    · have h16' : ¬ (16 : Int) < (l.length : Int) := by omega
      have H0 : Hid (LightK s l 0 0) := Lib.hid ⟨by omega, by omega, fun j _ h => absurd h (Nat.not_lt_zero _), by simp [total], by decide⟩
      go_enter Tryz.func6, Tryz.ntmps6
      go_wp2_with fail
      obtain ⟨wo, rfl⟩ : ∃ wo : World, wo = w := ⟨_, rfl⟩
      go_loopw [5, 6, 7] (fun t i _ wr => ∃ (k : Nat) (tot : Int), k ≤ l.length ∧ i = .int .i64 k ∧ t = .int .i64 tot ∧ wr = wo ∧ Hid (LightK s l k tot)) (fun _ i _ _ => l.length - (intOf i).toNat)
      case atStart => exact ⟨0, 0, by omega, rfl, rfl, rfl, H0⟩
      case round =>
        clear H0
        obtain ⟨k, tot, hk, rfl, rfl, rfl, M⟩ := hrel
        have hk0 : (0 : Int) ≤ (k : Int) := Int.natCast_nonneg _
        by_cases hlt : k < l.length
        · obtain ⟨b, o, sv, rfl, c0, c1, c2, c3, c4, c5⟩ := HR.out k hlt
          have HSR := Lib.hid c5
          obtain ⟨sa, sc, rfl, _, scs⟩ := c5
          have hk1 : (k : Int) < (l.length : Int) := by omega
          clear c0 c2 c3 c4 scs
          by_cases h20 : 20 < l[k].list.length
          · have h20' : (20 : Int) < (l[k].list.length : Int) := by omega
            go_wp2_with fail
            go_ret
            exact LightPost.no
          · have h20' : ¬ (20 : Int) < (l[k].list.length : Int) := by omega
            obtain ⟨T, hT⟩ : ∃ T : Nat, T = total (l.take k) := ⟨_, rfl⟩
            have hTt : tot = (T : Int) := by rw [hT]; exact M.out.sum
            subst hTt
            have hT6 := M.out.le
            have HT := Lib.hid hT
            clear hT
            generalize hL : l[k].list = L at *
            have HLL := Lib.hid hL
            have HSL : Hid (∀ t ∈ L, t.length ≤ 281474976710656) := Lib.hid (by rw [← hL]; exact HS.out _ (List.getElem_mem hlt))
            clear hL
            have H1 : Hid ((T : Int) = (T : Int) + (sumLen (L.take 0) : Int)) := Lib.hid (by simp [sumLen])
            go_wp2_with fail
            obtain ⟨wp, rfl⟩ : ∃ wp : World, wp = wr := ⟨_, rfl⟩
            go_loopw [5, 7] (fun t j wr => ∃ (m : Nat) (tot : Int), m ≤ L.length ∧ j = .int .i64 m ∧ t = .int .i64 tot ∧ wr = wp ∧ tot ≤ 6000 ∧ 0 ≤ tot ∧ Hid (tot = (T : Int) + (sumLen (L.take m) : Int))) (fun _ j _ => L.length - (intOf j).toNat)
            case atStart => exact ⟨0, T, by omega, rfl, rfl, rfl, hT6, by omega, H1⟩
            case round =>
              clear H1
              obtain ⟨m, tot, hm, rfl, rfl, rfl, ht6, ht0, N⟩ := hrel
              have hm0 : (0 : Int) ≤ (m : Int) := Int.natCast_nonneg _
              by_cases hlt2 : m < L.length
              · obtain ⟨a2, cc2, e2, _, scs⟩ := HSR.out
                cases e2
                obtain ⟨b2, o2, rfl, _, hcell⟩ := scs m hlt2
                have hm1 : (m : Int) < (L.length : Int) := by omega
                have hsz := HSL.out _ (List.getElem_mem hlt2)
                have N2 : Hid (tot + (L[m].length : Int) = (T : Int) + (sumLen (L.take (m + 1)) : Int)) := Lib.hid (by rw [sumLen_take _ _ hlt2, N.out]; omega)
                have hw : IntKind.i64.wrap (tot + (L[m].length : Int)) = tot + (L[m].length : Int) := IntWalk.i64_in _ (by omega)
                have hbz : (⟨L[m].toArray⟩ : ByteArray).size = L[m].length := by simp [ByteArray.size]
                clear scs
                by_cases h6 : (6000 : Int) < tot + (L[m].length : Int)
                · go_wp2_with fail
                  go_ret
                  exact LightPost.no
                · go_wp2_with fail
                  go_roundw
                  case rel => exact ⟨m + 1, tot + (L[m].length : Int), by omega, by go_num, by go_num, trivial, by omega, by omega, N2⟩
                  case measure => simp [intOf]; omega
              · obtain rfl : m = L.length := by omega
                have M2 : Hid (LightK s l (k + 1) tot) := Lib.hid ⟨M.out.s40, M.out.l16, fun j hj h => by
                  rcases Nat.lt_or_ge j k with e | e
                  · exact M.out.l20 j hj e
                  · obtain rfl : j = k := by omega
                    rw [HLL.out]
                    omega, by
                  have := N.out
                  rw [List.take_length] at this
                  rw [total_take _ _ hlt, HLL.out, ← HT.out]
                  omega, ht6⟩
                go_wp2_with fail
                go_roundw
                case rel => exact ⟨k + 1, tot, by omega, by go_num, rfl, trivial, M2⟩
                case measure => simp [intOf]; omega
        · obtain rfl : k = l.length := by omega
          have HD := Lib.hid M.out.done
          go_wp2_with fail
          go_ret
          exact LightPost.yes HD.out
end Go.Proofs.YtihoomlaggihlaaGreatDoor
