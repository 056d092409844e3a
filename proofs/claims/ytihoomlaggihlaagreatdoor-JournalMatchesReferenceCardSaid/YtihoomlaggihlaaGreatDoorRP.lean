/- Plain facts on the reference's numbers, heads, pieces and records. No program in sight. Under no condition. -/
/- The contracts of the reference's digits, Decimal, Joined, Text and Pieces. Under no condition but sizes. -/
import Derived.Test.YtihoomlaggihlaaGreatDoorKP
import Derived.Test.YtihoomlaggihlaaGreatDoorKE
import Derived.Test.YtihoomlaggihlaaGreatDoorJW
import Derived.Lib.AppendStr
import Derived.OwnWalk
import Derived.Laws.BytesArg
namespace Go.Proofs.YtihoomlaggihlaaGreatDoor

/-- the number that digits are, on top of one read before; -1 if they are none -/
def numP : List UInt8 → Int → Int
  | [], n => n
  | c :: l, n => if c.toNat < 48 ∨ 57 < c.toNat then -1 else numP l (10 * n + ((c.toNat : Int) - 48))
theorem numP_app : ∀ (a b : List UInt8) (n : Int), 0 ≤ n → numP (a ++ b) n = if numP a n < 0 then -1 else numP b (numP a n)
  | [], b, n, h => by simp [numP]; omega
  | c :: a, b, n, h => by
    simp only [List.cons_append, numP]
    split
    · simp
    · exact numP_app a b _ (by omega)
theorem numP_bd : ∀ (a : List UInt8) (n : Int), 0 ≤ n → -1 ≤ numP a n ∧ numP a n < (n + 1) * 10 ^ a.length
  | [], n, h => by simp [numP]; omega
  | c :: a, n, h => by
    simp only [numP, List.length_cons]
    have hp : (0 : Int) < 10 ^ (a.length + 1) := Int.pow_pos (by decide)
    have hm : 0 < (n + 1) * 10 ^ (a.length + 1) := Int.mul_pos (by omega) hp
    split
    · omega
    · have i := numP_bd a (10 * n + ((c.toNat : Int) - 48)) (by omega)
      refine ⟨i.1, Int.lt_of_lt_of_le i.2 ?_⟩
      rw [Int.pow_succ, Int.mul_comm (10 ^ a.length) 10, ← Int.mul_assoc]
      have hq : (0 : Int) ≤ 10 ^ a.length := Int.le_of_lt (Int.pow_pos (by decide))
      exact Int.mul_le_mul_of_nonneg_right (by omega) hq
theorem numP_dd (d : Nat) (h : d < 10) (n : Int) : numP [dd d] n = 10 * n + d := by
  have key : ∀ k, k < 10 → (dd k).toNat = 48 + k := by decide
  simp only [numP, key d h]
  rw [if_neg (by omega)]
  omega
theorem numP_decs : ∀ (w n : Nat), n < 10 ^ w → numP (decs w n []) 0 = n
  | 0, n, h => by
    have : n = 0 := by simpa using h
    subst this; rfl
  | w + 1, n, h => by
    have i := numP_decs w (n / 10) (by rw [Nat.pow_succ] at h; omega)
    rw [decs_snoc, numP_app _ _ _ (Int.le_refl _), i, if_neg (by omega), numP_dd _ (Nat.mod_lt _ (by decide))]
    omega
theorem numP_dec (n : Nat) : numP (Lib.decDigits n) 0 = n := by
  induction n using Nat.strongRecOn with
  | _ n ih =>
    by_cases h : n < 10
    · rw [dec_small h, numP_dd _ h]; omega
    · rw [dec_big h, numP_app _ _ _ (Int.le_refl _), ih (n / 10) (by omega), if_neg (by omega), numP_dd _ (Nat.mod_lt _ (by decide))]
      omega
/-- a head's count is read from its digits -/
theorem head_num (p m : Nat) (h : m < 10 ^ 8) : numP (((headP p m).drop 16).take 8) 0 = m := by
  rw [head_eq, sealT, List.drop_append_of_le_length (by rw [dig_len]; exact Nat.le_refl _), List.drop_of_length_le (by rw [dig_len]; exact Nat.le_refl _), List.nil_append, List.take_append_of_le_length (by rw [decs_len]; exact Nat.le_refl _), List.take_of_length_le (by rw [decs_len]; exact Nat.le_refl _)]
  exact numP_decs 8 m h
theorem cnt_num_no {p room : Nat} {s : List UInt8} (hr : room < 10 ^ 8) (hz : s ≠ zeroT) (h : numP ((s.drop 16).take 8) 0 < 0 ∨ (room : Int) < numP ((s.drop 16).take 8) 0 ∨ headP p (numP ((s.drop 16).take 8) 0).toNat ≠ s) : cnt p s room = -1 :=
  cnt_none hz fun n hn e => by
    rw [← e, head_num p n (by omega)] at h
    rcases h with h | h | h
    · omega
    · omega
    · exact h rfl
theorem cnt_num_yes {p room : Nat} {s : List UInt8} (hr : room < 10 ^ 8) (h0 : 0 ≤ numP ((s.drop 16).take 8) 0) (h1 : numP ((s.drop 16).take 8) 0 ≤ room) (h : headP p (numP ((s.drop 16).take 8) 0).toNat = s) : cnt p s room = numP ((s.drop 16).take 8) 0 := by
  have e := cnt_head (p := p) (n := (numP ((s.drop 16).take 8) 0).toNat) hr (by omega)
  rw [h] at e
  omega
/-- the piece that a sector holds, if any -/
def pieceP (p : Nat) (s : List UInt8) : List UInt8 :=
  if 1 ≤ numP ((s.drop 16).take 2) 0 ∧ numP ((s.drop 16).take 2) 0 ≤ 46 ∧ sectP p ((s.drop 18).take (numP ((s.drop 16).take 2) 0).toNat) = s then (s.drop 18).take (numP ((s.drop 16).take 2) 0).toNat else []
theorem sect_parts (p : Nat) {t : List UInt8} (h : t.length ≤ 46) : numP (((sectP p t).drop 16).take 2) 0 = t.length ∧ ((sectP p t).drop 18).take t.length = t := by
  have e : sectP p t = dig (decs 8 p [] ++ fillT (decs 2 t.length [] ++ t)) ++ (decs 2 t.length [] ++ (t ++ List.replicate (48 - (decs 2 t.length [] ++ t).length) 0)) := by
    rw [sectP, sealP, sealT]
    simp [fillT]
  have d2 : (decs 2 t.length []).length = 2 := by rw [decs_len]; rfl
  rw [e]
  refine ⟨?_, ?_⟩
  · rw [List.drop_append_of_le_length (by rw [dig_len]; exact Nat.le_refl _), List.drop_of_length_le (by rw [dig_len]; exact Nat.le_refl _), List.nil_append, List.take_append_of_le_length (by omega), List.take_of_length_le (by omega)]
    exact numP_decs 2 _ (by omega)
  · rw [← List.append_assoc, List.drop_append_of_le_length (by rw [List.length_append, dig_len, d2]; exact Nat.le_refl _), List.drop_of_length_le (by rw [List.length_append, dig_len, d2]; exact Nat.le_refl _), List.nil_append, List.take_append_of_le_length (Nat.le_refl _), List.take_of_length_le (Nat.le_refl _)]
theorem piece_of (p : Nat) {t : List UInt8} (h1 : 1 ≤ t.length) (h : t.length ≤ 46) : pieceP p (sectP p t) = t := by
  obtain ⟨a, b⟩ := sect_parts p h
  unfold pieceP
  rw [a, Int.toNat_natCast, b, if_pos ⟨by omega, by omega, rfl⟩]
theorem piece_is {p : Nat} {s : List UInt8} (hs : s.length = 64) (h : pieceP p s ≠ []) : 1 ≤ (pieceP p s).length ∧ (pieceP p s).length ≤ 46 ∧ s = sectP p (pieceP p s) := by
  unfold pieceP at *
  split at h
  · rename_i g
    obtain ⟨g1, g2, g3⟩ := g
    rw [if_pos ⟨g1, g2, g3⟩]
    refine ⟨?_, ?_, g3.symm⟩
    · rw [List.length_take, List.length_drop]; omega
    · rw [List.length_take, List.length_drop]; omega
  · exact absurd rfl h
theorem dec5 (n : Nat) (h : n ≤ 20000) : (Lib.decDigits n).length ≤ 5 := (pad_dec 4 n (by omega)).1
/-- no colon among the first six bytes: no record begins here -/
theorem not_head_six {r : List UInt8} (h : ∀ i, i ≤ 5 → r[i]? ≠ some 58) : ¬ HeadOk r := by
  rintro ⟨x, r', hx, e⟩
  refine h _ (dec5 x.length hx) ?_
  rw [e, List.getElem?_append_right (Nat.le_refl _), Nat.sub_self]
  rfl
theorem no_colon {r : List UInt8} {k : Nat} (h : ∀ i, i < k → r[i]? ≠ some 58) : (58 : UInt8) ∉ r.take k := by
  intro e
  obtain ⟨i, hi, e⟩ := List.getElem_of_mem e
  rw [List.getElem_take] at e
  rw [List.length_take] at hi
  exact h i (by omega) (by rw [List.getElem?_eq_getElem (by omega), e])
theorem at_colon {r : List UInt8} {k : Nat} (h : r[k]? = some 58) : r = r.take k ++ 58 :: r.drop (k + 1) := by
  have hk : k < r.length := by
    by_cases e : k < r.length
    · exact e
    · rw [List.getElem?_eq_none (by omega)] at h; cases h
  rw [List.getElem?_eq_getElem hk] at h
  have e : r[k] = 58 := by simpa using h
  rw [← e, List.getElem_cons_drop]
  exact (List.take_append_drop k r).symm
end Go.Proofs.YtihoomlaggihlaaGreatDoor

namespace Go.Proofs.YtihoomlaggihlaaGreatDoor
open Go.RowKit

/-- the digits of a number, none for nought -/
def dpre (n : Nat) : List UInt8 := if n = 0 then [] else Lib.decDigits n
theorem dec_dpre (n : Nat) : Lib.decDigits n = dpre (n / 10) ++ [dd (n % 10)] := by
  unfold dpre
  by_cases h : n < 10
  · rw [dec_small h, if_pos (by omega), Nat.mod_eq_of_lt h]; rfl
  · rw [dec_big h, if_neg (by omega)]
theorem dpre_step (n : Nat) (h : n ≠ 0) : dpre n = dpre (n / 10) ++ [dd (n % 10)] := by
  rw [← dec_dpre]; unfold dpre; rw [if_neg h]
theorem dig_one (r : Nat) (h : r < 10) : ({ data := #[48, 49, 50, 51, 52, 53, 54, 55, 56, 57] } : ByteArray).extract r (r + 1) = ⟨#[dd r]⟩ := by
  match r, h with
  | 0, _ => rfl | 1, _ => rfl | 2, _ => rfl | 3, _ => rfl | 4, _ => rfl | 5, _ => rfl | 6, _ => rfl | 7, _ => rfl | 8, _ => rfl | 9, _ => rfl
theorem dig_app (r : Nat) (h : r < 10) (s : List UInt8) : ({ data := #[48, 49, 50, 51, 52, 53, 54, 55, 56, 57] } : ByteArray).extract r (r + 1) ++ { data := s.toArray } = ⟨(dd r :: s).toArray⟩ := by
  rw [dig_one r h]
  apply ByteArray.ext; simp
theorem dec_len20 (n : Nat) (h : n < 10 ^ 20) : (Lib.decDigits n).length ≤ 20 := (pad_dec 19 n h).1
set_option maxHeartbeats 2000000 in
set_option maxRecDepth 100000 in
theorem rdgs_any (N : Nat) (w : World) (hN : N < 18446744073709551616) :
    Calls Tryz.prog 100 #[.int .u64 N] w fun e w' => e = .returned (.string ⟨(Lib.decDigits N).toArray⟩) ∧ w = w' := by
  have HLN := Lib.hid (show (Lib.decDigits N).length ≤ 20 from dec_len20 N (by omega))
  have HDP := Lib.hid (dec_dpre N)
  have hr : N % 10 < 10 := Nat.mod_lt _ (by decide)
  have HD1 := Lib.hid (dig_one (N % 10) hr)
  generalize Lib.decDigits N = R at *
  go_enter Tryz.func100, Tryz.ntmps100
  go_wp2_with fail
  go_loop [0, 3] (fun xv sv => ∃ (x : Nat) (s : List UInt8), x < 18446744073709551616 ∧ s.length ≤ 20 ∧ xv = .int .u64 x ∧ sv = .string ⟨s.toArray⟩ ∧ Hid (R = dpre x ++ s)) (fun x _ => (intOf x).toNat)
  case atStart => exact ⟨N / 10, [dd (N % 10)], by omega, by simp, by go_num, by rw [HD1.out], HDP⟩
  case round =>
    obtain ⟨x, s, hx, hl, rfl, rfl, HR⟩ := hrel
    by_cases h0 : x = 0
    · subst h0
      go_wp2_with fail
      go_ret
      exact ⟨by rw [HR.out]; rfl, rfl⟩
    · have hp : (0 : Int) < (x : Int) := by omega
      have hr2 : x % 10 < 10 := Nat.mod_lt _ (by decide)
      have HN := Lib.hid (show R = dpre (x / 10) ++ (dd (x % 10) :: s) by rw [HR.out, dpre_step x h0, List.append_assoc]; rfl)
      have hl2 : s.length + 1 ≤ 20 := by
        have := HLN.out
        rw [HN.out, List.length_append, List.length_cons] at this; omega
      go_wp2_with fail
      go_round
      case rel => exact ⟨x / 10, dd (x % 10) :: s, by omega, by simpa using hl2, by go_num, by rw [dig_app _ hr2], HN⟩
      case measure => simp [intOf]; omega
set_option maxHeartbeats 1000000 in
theorem rDec_any (n : Nat) (w : World) (hn : n ≤ 4611686018427387904) :
    Calls Tryz.prog 78 #[.int .i64 n] w fun e w' => e = .returned (.string ⟨(Lib.decDigits n).toArray⟩) ∧ w = w' := by
  have HD := Lib.hid (rdgs_any n w (by omega))
  generalize Lib.decDigits n = R at *
  go_enter Tryz.func78, Tryz.ntmps78
  go_wp2_with fail
  refine HD.out.mono ?_
  rintro e w' ⟨rfl, rfl⟩
  go_wp2_with fail
  go_ret
  exact ⟨rfl, rfl⟩
theorem textP_xs : ∀ l : List (List UInt8), l.length ≤ (textP l).length
  | [] => by simp
  | r :: l => by
    have := textP_xs l
    rw [textP_cons]; simp; omega
theorem bytes_row {w : World} {B n : Nat} {v : Value} {l : List UInt8} (h : w.ownsRow B 5 1 v n (Lib.byteCells l)) : (convert 56 9 v).run Tryz.prog w = .ok (.string ⟨l.toArray⟩) w := by
  have hn : l.length = n := by have := h.1; rw [Lib.byteCells_length] at this; omega
  rcases h.2 with ⟨rfl, e⟩ | ⟨g, cap, cur, rfl, _⟩
  · have : l = [] := List.eq_nil_of_length_eq_zero (by omega)
    subst this
    exact run_convert_bytes_nil (P := Tryz.prog) (w := w) 56 5 Tryz.underlying56 Tryz.underlying5 0 0 9 Tryz.underlying9
  · subst hn
    refine run_convert_bytes_back (P := Tryz.prog) w 56 9 5 ⟨g, 0, none⟩ cap l Tryz.underlying56 Tryz.underlying5 Tryz.underlying9 (fun j hj => ?_)
    exact h.cells (g := g) rfl j _ (by simp [Lib.byteCells, hj])
set_option maxHeartbeats 8000000 in
set_option maxRecDepth 100000 in
theorem joined_any (w : World) (v : Value) (xs : List (List UInt8)) (h : SR w (fun _ => False) v xs) (hlen : (textP xs).length ≤ 10000000) :
    Calls Tryz.prog 43 #[v] w fun e w' => e = .returned (.string ⟨(textP xs).toArray⟩) ∧ Below w.heap.size w w' := by
  have hmx : xs.length ≤ 10000000 := Nat.le_trans (textP_xs xs) hlen
  have HLE := Lib.hid (textP_le xs)
  have HTK := Lib.hid (textP_take xs)
  obtain ⟨i5, hi5, ha5, hb5, hc5⟩ := info_parts info5
  have HC := Lib.hid hc5
  obtain ⟨a, c, rfl, hc, hcs⟩ := h
  have HCS := Lib.hid hcs
  clear hcs
  go_enter Tryz.func43, Tryz.ntmps43
  go_wp2_with fail
  go_loop [3, 4] (fun nv iv => ∃ (S k : Nat), k ≤ xs.length ∧ S ≤ (textP (xs.take k)).length + 21 * k ∧ nv = .int .i64 S ∧ iv = .int .i64 k) (fun _ i => xs.length - (intOf i).toNat)
  case atStart => exact ⟨0, 0, by omega, by omega, rfl, rfl⟩
  case round =>
    obtain ⟨S, k, hk, hS, rfl, rfl⟩ := hrel
    have hk0 : (0 : Int) ≤ (k : Int) := Int.natCast_nonneg _
    have hS0 : (0 : Int) ≤ (S : Int) := Int.natCast_nonneg _
    have hSb : S ≤ 300000000 := by have := HLE.out k; omega
    by_cases hlt : k < xs.length
    · obtain ⟨b, o, rfl, _, hcell⟩ := HCS.out k hlt
      have hk1 : (k : Int) < (xs.length : Int) := by omega
      have hsz : (⟨xs[k].toArray⟩ : ByteArray).size = xs[k].length := by simp [ByteArray.size]
      have hT := HTK.out k hlt
      have hle := HLE.out (k + 1)
      have hT2 := congrArg List.length hT
      simp only [List.length_append, List.length_cons] at hT2
      have hx : xs[k].length ≤ 10000000 := by omega
      have HS := Lib.hid (show S + (xs[k].length + 21) ≤ (textP (xs.take (k + 1))).length + 21 * (k + 1) by omega)
      clear hT hle hT2 hS
      generalize hX : xs[k] = x at *
      clear hX
      go_wp2_with fail
      go_round
      case rel => exact ⟨S + (x.length + 21), k + 1, by omega, HS.out, by go_num, by go_num⟩
      case measure => simp [intOf]; omega
    · obtain rfl : k = xs.length := by omega
      clear hS
      go_wp2_with (at_make; refine wpList_make_own _ rfl _ _ 56 rfl w.heap.size 5 i5 _ 1 Tryz.underlying56 hi5 ha5 hb5 .i64 .i64 _ S rfl rfl rfl (by rw [HC.out]; omega) (by unfold maxLen; omega) (Nat.le_refl _) ?_; intro w1 ho1 hg1)
      have HO1 : Hid (w1.ownsRow w.heap.size 5 1 (.slice (some ⟨w.heap.size, 0, none⟩) 0 S) 0 (Lib.byteCells [])) := Lib.hid ho1
      have HB1 : Hid (Below w.heap.size w w1) := Lib.hid ⟨hg1.os, hg1.tape, hg1.output, hg1.size, fun k hk => hg1.block k hk (by simp)⟩
      clear ho1 hg1
      go_wp2_with fail
      obtain ⟨wo, rfl⟩ : ∃ wo : World, wo = w := ⟨_, rfl⟩
      go_loopw [5, 6] (fun v i wr => ∃ k : Nat, k ≤ xs.length ∧ i = .int .i64 k ∧ Hid (wr.ownsRow wo.heap.size 5 1 v (textP (xs.take k)).length (Lib.byteCells (textP (xs.take k)))) ∧ Hid (Below wo.heap.size wo wr)) (fun _ i _ => xs.length - (intOf i).toNat)
      case atStart => exact ⟨0, by omega, rfl, HO1, HB1⟩
      case round =>
        clear HO1 HB1 hSb hS0 hk hk0 hlt
        obtain ⟨k, hk, rfl, HO, HB⟩ := hrel
        have hk0 : (0 : Int) ≤ (k : Int) := Int.natCast_nonneg _
        have hz : wo.heap.size ≤ wr.heap.size := HB.out.size
        by_cases hlt : k < xs.length
        · obtain ⟨b, o, rfl, _, hcell⟩ := HCS.out k hlt
          have HCW := Lib.hid (fun W (hb : Below wo.heap.size wo W) => ((hb.cell (p := ⟨b, o + k, none⟩) (cell_lt hcell)).trans hcell : W.cell? ⟨b, o + k, none⟩ = some (.string ⟨xs[k].toArray⟩)))
          have cr := HCW.out wr HB.out
          have hk1 : (k : Int) < (xs.length : Int) := by omega
          have hsz : (⟨xs[k].toArray⟩ : ByteArray).size = xs[k].length := by simp [ByteArray.size]
          have HT := Lib.hid (HTK.out k hlt)
          have hle := HLE.out (k + 1)
          rw [HT.out] at hle
          simp only [List.length_append, List.length_cons] at hle
          have HH := Lib.hid (Nat.le_trans hle hlen)
          have hx : xs[k].length ≤ 10000000 := by omega
          clear hcell hle
          generalize hX : xs[k] = x at *
          clear hX
          go_wp2_with fail
          refine (rDec_any x.length wr (by omega)).mono ?_
          rintro e w2 ⟨rfl, rfl⟩
          have hdz : (⟨(Lib.decDigits x.length).toArray⟩ : ByteArray).size = (Lib.decDigits x.length).length := by simp [ByteArray.size]
          generalize Lib.decDigits x.length = D at *
          generalize hT : textP (xs.take k) = T at *
          clear hT
          have l1 : T.length + (D.length + (x.length + 1)) ≤ 10000000 := HH.out
          go_wp2_with (at_builtin; refine Lib.wpList_append_own_string _ rfl (.tmp 29) (.tmp 35) 56 9 rfl wo.heap.size 5 i5 Tryz.underlying56 Tryz.underlying9 hi5 ha5 hb5 hc5 _ T.length (Lib.byteCells T) rfl HO.out ⟨D.toArray⟩ rfl (by unfold maxLen; omega) (by omega) hz ?_)
          intro v1 w3 ho3 hg3 _
          have B3 := Lib.hid (HB.out.grown hg3 hz (fun k hk => (HO.out.lt k hk).1))
          have hz3 : wo.heap.size ≤ w3.heap.size := B3.out.size
          have O3 := Lib.hid (own_below ho3 (Gr.one w3 (.cells #[.int .u8 58] 5)).below)
          have B3a := Lib.hid (B3.out.alloc hz3 (.cells #[.int .u8 58] 5))
          clear ho3 hg3 cr
          go_wp2_with (at_builtin; refine wpList_append_own _ rfl (.tmp 37) (.tmp 38) 56 rfl wo.heap.size 5 i5 _ 1 1 Tryz.underlying56 hi5 ha5 hb5 hc5 rfl (by decide) _ _ _ rfl O3.out ⟨w3.heap.size, 0, none⟩ 1 1 [.int .u8 58] rfl rfl (news_one _ _ _) (by intro u hu; simp at hu; subst hu; rfl) (by unfold maxLen; omega) (by omega) (by simp; omega) ?_)
          intro v2 w4 ho4 hg4 _
          have B4 := Lib.hid (B3a.out.grown hg4 (by simp; omega) (fun k hk => (O3.out.lt k hk).1))
          have hz4 : wo.heap.size ≤ w4.heap.size := B4.out.size
          have cr4 := HCW.out w4 B4.out
          have O4 := Lib.hid ho4
          clear ho4 hg4 O3 B3 B3a
          go_wp2_with (at_builtin; refine Lib.wpList_append_own_string _ rfl (.tmp 40) (.tmp 44) 56 9 rfl wo.heap.size 5 i5 Tryz.underlying56 Tryz.underlying9 hi5 ha5 hb5 hc5 _ _ _ rfl O4.out ⟨x.toArray⟩ rfl (by unfold maxLen; omega) (by omega) hz4 ?_)
          intro v3 w5 ho5 hg5 _
          have B5 := Lib.hid (B4.out.grown hg5 hz4 (fun k hk => (O4.out.lt k hk).1))
          have O5 : Hid (w5.ownsRow wo.heap.size 5 1 v3 (textP (xs.take (k + 1))).length (Lib.byteCells (textP (xs.take (k + 1))))) := Lib.hid (by
            have e1 : (textP (xs.take (k + 1))).length = T.length + D.length + 1 + x.length := by
              rw [HT.out]; simp only [List.length_append, List.length_cons]; omega
            have e2 : Lib.byteCells (textP (xs.take (k + 1))) = Lib.byteCells T ++ (Lib.strCells ⟨D.toArray⟩ ++ .int .u8 58 :: Lib.strCells ⟨x.toArray⟩) := by
              rw [HT.out, byte_app, byte_app, byte_str, byte_str]
              simp [Lib.byteCells]
            rw [e1, e2]; simpa using ho5)
          clear ho5 hg5 O4
          go_wp2_with fail
          go_roundw
          case rel => exact ⟨k + 1, by omega, by go_num, O5, B5⟩
          case measure => simp [intOf]; omega
        · obtain rfl : k = xs.length := by omega
          rw [List.take_length] at HO
          have kc := bytes_row HO.out
          go_wp2_with fail
          go_ret
          exact ⟨rfl, HB.out⟩
set_option maxHeartbeats 1000000 in
theorem rtext_any (w : World) (v : Value) (xs : List (List UInt8)) (h : SR w (fun _ => False) v xs) (hlen : (textP xs).length ≤ 10000000) :
    Calls Tryz.prog 11 #[v] w fun e w' => e = .returned (.string ⟨(textP xs).toArray⟩) ∧ Below w.heap.size w w' := by
  have HJ := Lib.hid (joined_any w v xs h hlen)
  clear h
  generalize textP xs = T at *
  go_enter Tryz.func11, Tryz.ntmps11
  go_wp2_with fail
  refine HJ.out.mono ?_
  rintro e w1 ⟨rfl, hb⟩
  have HB := Lib.hid hb
  clear hb HJ
  go_wp2_with fail
  go_ret
  exact ⟨rfl, HB.out⟩
theorem extract_mid (l : List UInt8) (a b : Nat) : (⟨l.toArray⟩ : ByteArray).extract a b = ⟨((l.drop a).take (b - a)).toArray⟩ := by
  apply ByteArray.ext
  apply Array.toList_inj.1
  rw [Lib.extract_data]
/-- pieces made so far -/
def Piecing (t : List UInt8) (B : Nat) (wo : World) (v : Value) (done : List (List UInt8)) (w : World) : Prop :=
  pieces t = done ++ pieces (t.drop (46 * done.length)) ∧ w.ownsRow B 9 1 v done.length (strs done) ∧ Below B wo w
theorem Piecing.step {t : List UInt8} {B : Nat} {wo : World} {v v' : Value} {done : List (List UInt8)} {w w1 w' : World} (h : Piecing t B wo v done w) (hr : 46 * done.length < t.length) (hB : B ≤ w.heap.size) (hg1 : Below w.heap.size w w1) (ho : w'.ownsRow B 9 1 v' (done.length + 1) (strs done ++ strs [(t.drop (46 * done.length)).take 46])) (hg : w1.grownBy w' v.ownBlock) : Piecing t B wo v' (done ++ [(t.drop (46 * done.length)).take 46]) w' := by
  obtain ⟨h1, h4, h5⟩ := h
  refine ⟨?_, ?_, ?_⟩
  · rw [h1, pieces_cons (fun e => by have := congrArg List.length e; simp at this; omega)]
    simp only [List.append_assoc, List.length_append, List.length_singleton, List.singleton_append, List.drop_drop]
    rw [show 46 * done.length + 46 = 46 * (done.length + 1) by omega]
  · rw [strs_app, List.length_append]; exact ho
  · exact (h5.trans (hg1.mono hB)).grown hg (Nat.le_trans hB hg1.size) (fun k hk => (h4.lt k hk).1)
set_option maxHeartbeats 4000000 in
set_option maxRecDepth 100000 in
theorem rpieces_any (w : World) (t : List UInt8) (ht : t.length ≤ 10000000) :
    Calls Tryz.prog 10 #[.string ⟨t.toArray⟩] w fun e w' => ∃ v, e = .returned v ∧ w'.ownsRow w.heap.size 9 1 v (pieces t).length (strs (pieces t)) ∧ Below w.heap.size w w' := by
  have H0 : Hid (Piecing t w.heap.size w (.slice none 0 0) [] w) := Lib.hid ⟨by simp, World.ownsRow_nil _ _ _ _, Below.refl _ _⟩
  have hsz : (⟨t.toArray⟩ : ByteArray).size = t.length := by simp [ByteArray.size]
  obtain ⟨i9, hi9, ha9, hb9, hc9⟩ := info_parts info9
  go_enter Tryz.func10, Tryz.ntmps10
  go_wp2_with fail
  obtain ⟨wo, rfl⟩ : ∃ wo : World, wo = w := ⟨_, rfl⟩
  go_loopw [3, 4] (fun v i wr => ∃ done : List (List UInt8), 46 * done.length ≤ t.length + 46 ∧ i = .int .i64 ((46 * done.length : Nat) : Int) ∧ Hid (Piecing t wo.heap.size wo v done wr)) (fun _ i _ => t.length + 46 - (intOf i).toNat)
  case atStart => exact ⟨[], by simp, rfl, H0⟩
  case round =>
    clear H0
    obtain ⟨done, hd, rfl, M⟩ := hrel
    have hz : wo.heap.size ≤ wr.heap.size := M.out.2.2.size
    by_cases hlt : 46 * done.length < t.length
    · have HST := Lib.hid (fun v' w' => M.out.step (v' := v') (w' := w') hlt hz (Gr.one wr (.cells #[.string ⟨((t.drop (46 * done.length)).take 46).toArray⟩] 9)).below)
      have HO := Lib.hid (own_below M.out.2.1 (Gr.one wr (.cells #[.string ⟨((t.drop (46 * done.length)).take 46).toArray⟩] 9)).below)
      have hdl : done.length ≤ 10000000 := by omega
      have HN := Lib.hid (show (46 * (done ++ [(t.drop (46 * done.length)).take 46]).length : Nat) = 46 * done.length + 46 by simp; omega)
      have hex : (⟨t.toArray⟩ : ByteArray).extract (46 * done.length) (min (46 * done.length + 46) t.length) = ⟨((t.drop (46 * done.length)).take 46).toArray⟩ := by
        rw [extract_mid]
        congr 2
        by_cases h : 46 * done.length + 46 ≤ t.length
        · rw [Nat.min_eq_left h, show 46 * done.length + 46 - 46 * done.length = 46 by omega]
        · rw [Nat.min_eq_right (by omega), List.take_of_length_le (by rw [List.length_drop]; omega), List.take_of_length_le (by rw [List.length_drop]; omega)]
      generalize hK : 46 * done.length = K at *
      have HK := Lib.hid hK
      clear hK
      have hk0 : (0 : Int) ≤ (K : Int) := Int.natCast_nonneg _
      have hk1 : (K : Int) < (t.length : Int) := by omega
      have hmn : min ((K : Int) + 46) (t.length : Int) = ((min (K + 46) t.length : Nat) : Int) := by omega
      have hN1 : K ≤ min (K + 46) t.length := by omega
      have hN2 : min (K + 46) t.length ≤ t.length := by omega
      generalize min (K + 46) t.length = N at *
      have hn1 : (K : Int) ≤ (N : Int) := by omega
      have hn2 : (N : Int) ≤ (t.length : Int) := by omega
      generalize hP : (t.drop K).take 46 = p at *
      clear hP
      go_wp2_with (at_builtin; refine wpList_append_own _ rfl (.tmp 11) (.tmp 20) 26 rfl wo.heap.size 9 i9 _ 1 16 Tryz.underlying26 hi9 ha9 hb9 hc9 rfl (by decide) _ done.length (strs done) rfl HO.out ⟨wr.heap.size, 0, none⟩ 1 1 (strs [p]) rfl rfl (news_one _ _ _) (strs_one _) (by unfold maxLen; omega) (by omega) (by simp; omega) ?_)
      intro v' w2 ho2 hg2 _
      have M2 := Lib.hid (HST.out v' w2 ho2 hg2)
      clear ho2 hg2 HST HO
      go_wp2_with fail
      go_roundw
      case rel => exact ⟨done ++ [p], by rw [HN.out]; omega, by rw [HN.out]; go_num, M2⟩
      case measure => simp [intOf]; omega
    · have hlt2 : ¬ ((46 * done.length : Nat) : Int) < (t.length : Int) := by omega
      have HD := Lib.hid (show pieces t = done by
        have := M.out.1
        rw [List.drop_of_length_le (by omega), pieces_nil, List.append_nil] at this
        exact this)
      generalize 46 * done.length = K at *
      go_wp2_with fail
      go_ret
      exact ⟨_, rfl, by rw [HD.out]; exact M.out.2.1, M.out.2.2⟩
end Go.Proofs.YtihoomlaggihlaaGreatDoor
