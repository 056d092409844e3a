/- The contracts of the digest's take, blocks and Sum. Under the condition that the tables lie in memory as the program lays them. -/
import Derived.Test.YtihoomlaggihlaaGreatDoorJY
namespace Go.Proofs.YtihoomlaggihlaaGreatDoor
open Go.RowKit

/-- the number of the first k bytes -/
def pre (k : Nat) (l : List UInt8) : Nat := (List.range k).foldl (fun n i => n * 256 + (l.getD i 0).toNat) 0
theorem pre_succ (k : Nat) (l : List UInt8) : pre (k + 1) l = pre k l * 256 + (l.getD k 0).toNat := by simp [pre, List.range_succ]
theorem pre_lt (l : List UInt8) : ∀ k, pre k l < 256 ^ k
  | 0 => by simp [pre]
  | k + 1 => by
    rw [pre_succ, Nat.pow_succ]
    have := pre_lt l k
    have := (l.getD k 0).toNat_lt
    omega
theorem blk_pre (l : List UInt8) : blk l = pre 8 l := rfl
theorem or_add {a b : Nat} (hb : b < 256) : a * 256 ||| b = a * 256 + b := by
  have := Nat.shiftLeft_add_eq_or_of_lt (i := 8) (b := b) (by simpa using hb) a
  rw [Nat.shiftLeft_eq] at this
  exact this.symm
theorem pre_step (k : Nat) (l : List UInt8) (hk : k < 8) : bits .or .u64 (IntKind.u64.wrap ((pre k l : Int) * 256)) ((l.getD k 0).toNat : Int) = (pre (k + 1) l : Int) := by
  have h1 := pre_lt l k
  have h2 := (l.getD k 0).toNat_lt
  have h3 : 256 ^ k ≤ 256 ^ 7 := Nat.pow_le_pow_right (by decide) (by omega)
  have h4 : pre k l < 72057594037927936 := Nat.lt_of_lt_of_le h1 h3
  have e : IntKind.u64.wrap ((pre k l : Int) * 256) = ((pre k l * 256 : Nat) : Int) := by
    rw [IntKind.wrap_u64, Int.natCast_mul, Int.emod_eq_of_lt (by omega) (by omega)]; rfl
  rw [e, u64_or_nat _ _ (by omega) (by omega), or_add h2, pre_succ]
theorem pre_step' (k : Nat) (l : List UInt8) (hk : k < 8) : bits .or .u64 (IntKind.u64.wrap ((pre k l : Int) * 256)) (IntKind.u64.wrap ((l[k]?.getD 0).toNat : Int)) = (pre (k + 1) l : Int) := by
  have h2 := (l[k]?.getD 0).toNat_lt
  have e : IntKind.u64.wrap ((l[k]?.getD 0).toNat : Int) = ((l[k]?.getD 0).toNat : Int) := by
    rw [IntKind.wrap_u64]; omega
  rw [e, ← List.getD_eq_getElem?_getD]
  exact pre_step k l hk
theorem mixA (X : Nat) (hX : X < 18446744073709551616) : IntKind.u64.wrap (bits .xor .u64 (X : Int) ((X : Int) / 2147483648) * 11400714819323198485) = (((X ^^^ X / 2147483648) * 11400714819323198485 % 18446744073709551616 : Nat) : Int) := mixStep_u64 X 2147483648 11400714819323198485 hX
theorem mixB (X : Nat) (hX : X < 18446744073709551616) : IntKind.u64.wrap (bits .xor .u64 (X : Int) ((X : Int) / 134217728) * 15074714826142052245) = (((X ^^^ X / 134217728) * 15074714826142052245 % 18446744073709551616 : Nat) : Int) := mixStep_u64 X 134217728 15074714826142052245 hX
theorem mixC (X : Nat) (hX : X < 18446744073709551616) : bits .xor .u64 (X : Int) ((X : Int) / 8589934592) = ((X ^^^ X / 8589934592 : Nat) : Int) := xorShift_u64 X 8589934592 hX
theorem mix_sh (x : Nat) : mixN x = (((x ^^^ x / 2147483648) * 11400714819323198485 % 18446744073709551616 ^^^ (x ^^^ x / 2147483648) * 11400714819323198485 % 18446744073709551616 / 134217728) * 15074714826142052245 % 18446744073709551616) ^^^ (((x ^^^ x / 2147483648) * 11400714819323198485 % 18446744073709551616 ^^^ (x ^^^ x / 2147483648) * 11400714819323198485 % 18446744073709551616 / 134217728) * 15074714826142052245 % 18446744073709551616) / 8589934592 := by
  unfold mixN
  simp only [Nat.shiftRight_eq_div_pow]
theorem mix_expr (s N : Nat) (hs : s < 18446744073709551616) (hN : N < 18446744073709551616) :
    bits .xor .u64 (IntKind.u64.wrap (bits .xor .u64 (IntKind.u64.wrap (bits .xor .u64 (bits .xor .u64 (s : Int) (N : Int)) (bits .xor .u64 (s : Int) (N : Int) / 2147483648) * 11400714819323198485)) (IntKind.u64.wrap (bits .xor .u64 (bits .xor .u64 (s : Int) (N : Int)) (bits .xor .u64 (s : Int) (N : Int) / 2147483648) * 11400714819323198485) / 134217728) * 15074714826142052245))
      (IntKind.u64.wrap (bits .xor .u64 (IntKind.u64.wrap (bits .xor .u64 (bits .xor .u64 (s : Int) (N : Int)) (bits .xor .u64 (s : Int) (N : Int) / 2147483648) * 11400714819323198485)) (IntKind.u64.wrap (bits .xor .u64 (bits .xor .u64 (s : Int) (N : Int)) (bits .xor .u64 (s : Int) (N : Int) / 2147483648) * 11400714819323198485) / 134217728) * 15074714826142052245) / 8589934592) = ((mixN (s ^^^ N) : Nat) : Int) := by
  rw [bits_xor_u64_nat s N hs hN]
  have hx : s ^^^ N < 18446744073709551616 := Nat.xor_lt_two_pow (n := 64) (by simpa using hs) (by simpa using hN)
  rw [mixA _ hx, mixB _ (Nat.mod_lt _ (by decide)), mixC _ (Nat.mod_lt _ (by decide)), mix_sh]
set_option maxHeartbeats 4000000 in
set_option maxRecDepth 100000 in
theorem take_any (w : World) (sa s : Nat) (l : List UInt8) (hl : l.length = 8) (hs : s < 18446744073709551616) (h : w.heap[sa]? = some (.cells #[.int .u64 s] 129 (0, 0))) :
    Calls Tryz.prog 107 #[.pointer (some ⟨sa, 0, none⟩), .agg (bytesV l).toArray] w fun e w' => e = .returned (.tuple #[]) ∧ w'.heap[sa]? = some (.cells #[.int .u64 (mixN (s ^^^ blk l))] 129 (0, 0)) ∧ Out (· = sa) w w' := by
  have H := Lib.hid h
  have HS := Lib.hid hs
  have cs : w.cell? ⟨sa, 0, none⟩ = some (.int .u64 s) := cell_at h rfl
  have fs := frozen_at h 0
  have hlt := heap_lt h
  have HN := Lib.hid (show blk l = pre 8 l from rfl)
  generalize blk l = N at *
  obtain ⟨b0, b1, b2, b3, b4, b5, b6, b7, rfl⟩ : ∃ b0 b1 b2 b3 b4 b5 b6 b7, l = [b0, b1, b2, b3, b4, b5, b6, b7] := by
    match l, hl with
    | [b0, b1, b2, b3, b4, b5, b6, b7], _ => exact ⟨b0, b1, b2, b3, b4, b5, b6, b7, rfl⟩
  clear h hs hl
  simp only [bytesV, List.map_cons, List.map_nil]
  have HC : ∀ k, k < 8 → #[Value.int .u8 (b0.toNat : Int), .int .u8 (b1.toNat : Int), .int .u8 (b2.toNat : Int), .int .u8 (b3.toNat : Int), .int .u8 (b4.toNat : Int), .int .u8 (b5.toNat : Int), .int .u8 (b6.toNat : Int), .int .u8 (b7.toNat : Int)][k]? = some (.int .u8 (([b0, b1, b2, b3, b4, b5, b6, b7].getD k 0).toNat : Int)) := fun k hk => by
    match k, hk with
    | 0, _ => rfl
    | 1, _ => rfl
    | 2, _ => rfl
    | 3, _ => rfl
    | 4, _ => rfl
    | 5, _ => rfl
    | 6, _ => rfl
    | 7, _ => rfl
  replace HC := Lib.hid HC
  have HP := Lib.hid (fun k => pre_step' k [b0, b1, b2, b3, b4, b5, b6, b7])
  have HL := Lib.hid (pre_lt [b0, b1, b2, b3, b4, b5, b6, b7] 8)
  have HA := Lib.hid (heap_alloc_new w (.cells #[Value.int .u8 (b0.toNat : Int), .int .u8 (b1.toNat : Int), .int .u8 (b2.toNat : Int), .int .u8 (b3.toNat : Int), .int .u8 (b4.toNat : Int), .int .u8 (b5.toNat : Int), .int .u8 (b6.toNat : Int), .int .u8 (b7.toNat : Int)] 145))
  go_enter Tryz.func107, Tryz.ntmps107
  go_wp2_with fail
  generalize hL : [b0, b1, b2, b3, b4, b5, b6, b7] = l at *
  generalize #[Value.int .u8 (b0.toNat : Int), .int .u8 (b1.toNat : Int), .int .u8 (b2.toNat : Int), .int .u8 (b3.toNat : Int), .int .u8 (b4.toNat : Int), .int .u8 (b5.toNat : Int), .int .u8 (b6.toNat : Int), .int .u8 (b7.toNat : Int)] = arr at *
  clear hL b0 b1 b2 b3 b4 b5 b6 b7
  go_loop [4, 5, 7] (fun n _ i => ∃ k : Nat, k ≤ 8 ∧ n = .int .u64 (pre k l) ∧ i = .int .i64 k) (fun _ _ i => 8 - (intOf i).toNat)
  case atStart => exact ⟨0, by omega, rfl, rfl⟩
  case round =>
    obtain ⟨k, hk, rfl, rfl⟩ := hrel
    have hk0 : (0 : Int) ≤ (k : Int) := Int.natCast_nonneg _
    by_cases h8 : k < 8
    · have ck := cell_at HA.out (HC.out k h8)
      have PKH := Lib.hid (HP.out k h8)
      have h8' : (k : Int) < 8 := by omega
      go_wp2_with fail
      go_round
      case rel => exact ⟨k + 1, by omega, by rw [PKH.out], by go_num⟩
      case measure => simp [intOf]; omega
    · obtain rfl : k = 8 := by omega
      clear hk h8 hk0
      rw [← HN.out]
      rw [← HN.out] at HL
      have hB := HL.out
      go_wp2_with fail
      go_end0
      rw [mix_expr s N HS.out (by simpa using HL.out)]
      have o1 : Out (· = sa) w (w.setCell ⟨sa, 0, none⟩ (.int .u64 ((mixN (s ^^^ N) : Nat) : Int))) := Out.set w (a := ⟨sa, 0, none⟩) _ rfl
      have q := heap_setCell_same w sa 0 _ _ (.int .u64 ((mixN (s ^^^ N) : Nat) : Int)) H.out
      refine ⟨rfl, ?_, o1.trans (Out.of_below (F := (· = sa)) (Gr.one _ _).below) (fun _ e => Or.inl e)⟩
      rw [(Gr.one _ _).below.block _ (heap_lt q), q]
      simp
/-- the digest's state behind its first k blocks -/
def Dig (s0 : Nat) (l : List UInt8) (k s : Nat) : Prop := s < 18446744073709551616 ∧ ((8 * k ≤ l.length ∧ takeAll s0 l = takeAll s (l.drop (8 * k))) ∨ (l.length < 8 * k ∧ takeAll s0 l = s))
/-- eight bytes of a text, filled up with zeros -/
def eight (l : List UInt8) : List UInt8 := l.take 8 ++ List.replicate (8 - l.length) 0
theorem eight_len (l : List UInt8) : (eight l).length = 8 := by simp [eight]; omega
theorem eight_blk (l : List UInt8) : blk (eight l) = blk l := by
  have g : ∀ i, i < 8 → (eight l).getD i 0 = l.getD i 0 := fun i hi => by
    unfold eight
    rw [List.getD_eq_getElem?_getD, List.getD_eq_getElem?_getD]
    by_cases h : i < l.length
    · rw [List.getElem?_append_left (by simp; omega), List.getElem?_take_of_lt hi]
    · rw [List.getElem?_append_right (by simp; omega), List.getElem?_eq_none (l := l) (by omega), List.getElem?_replicate]
      split <;> rfl
  rw [blk_eq, blk_eq]
  simp only [g 0 (by omega), g 1 (by omega), g 2 (by omega), g 3 (by omega), g 4 (by omega), g 5 (by omega), g 6 (by omega), g 7 (by omega)]
theorem Dig.start {s0 : Nat} (h : s0 < 18446744073709551616) (l : List UInt8) : Dig s0 l 0 s0 := ⟨h, Or.inl ⟨by omega, by simp⟩⟩
theorem Dig.step {s0 k s : Nat} {l : List UInt8} (h : Dig s0 l k s) (hk : 8 * k ≤ l.length) : Dig s0 l (k + 1) (mixN (s ^^^ blk (eight (l.drop (8 * k))))) := by
  rw [eight_blk]
  refine ⟨mix_lt, ?_⟩
  rcases h.2 with ⟨_, e⟩ | ⟨e, _⟩
  · by_cases hl : l.length < 8 * k + 8
    · rw [take_short (s := s) (l := l.drop (8 * k)) (by rw [List.length_drop]; omega)] at e
      exact Or.inr ⟨by omega, e⟩
    · rw [take_long (s := s) (l := l.drop (8 * k)) (by rw [List.length_drop]; omega), List.drop_drop] at e
      exact Or.inl ⟨by omega, by rw [e, show 8 * k + 8 = 8 * (k + 1) by omega]⟩
  · omega
theorem Dig.done {s0 k s : Nat} {l : List UInt8} (h : Dig s0 l k s) (hk : l.length < 8 * k) : s = takeAll s0 l := by
  rcases h.2 with ⟨e, _⟩ | ⟨_, e⟩
  · omega
  · exact e.symm
/-- 'copy(dst, s)' from a string, of whatever length -/
theorem run_copy_part (w : World) (dT sT ty elem : TypeId) (b o dLen dCap : Nat) (t : ByteArray)
    (hu : Tryz.prog.underlying dT = some (.slice elem)) (hz : ∀ w, (Go.sizeOf elem).run Tryz.prog w = .ok 1 w)
    (hc : ∀ j, j < min t.size dLen → (w.cell? ⟨b, o + j, none⟩).isSome = true) (hf : ∀ j, j < min t.size dLen → w.frozen? ⟨b, o + j, none⟩ = false) :
    (Builtin.copy_ #[dT, sT] ty #[.slice (some ⟨b, o, none⟩) dLen dCap, .string t]).run Tryz.prog w = .ok (goInt (min t.size dLen : Nat)) (w.setCells b o ((t.data.toList.map fun x => Value.int .u8 (x.toNat : Int)).take (min t.size dLen))) := by
  have hl : ((t.data.toList.map fun x => Value.int .u8 (x.toNat : Int)).take (min t.size dLen)).length = min t.size dLen := by rw [List.length_take, List.length_map, ← Lib.size_eq]; omega
  have hst := run_storeCells_cells (P := Tryz.prog) b o ((t.data.toList.map fun x => Value.int .u8 (x.toNat : Int)).take (min t.size dLen)) 0 w (by rw [hl]; simpa using hc) (by rw [hl]; simpa using hf) (by
    intro v hv
    obtain ⟨x, _, rfl⟩ := List.mem_map.1 (List.mem_of_mem_take hv)
    rfl)
  have hmin : Nat.min t.size dLen = min t.size dLen := rfl
  simp [Builtin.copy_, run_underlying hu, Builtin.lenOf, Builtin.firstCells, hz, hmin]
  rw [hst]
  rfl
theorem step_copy_part {ops : Array Oper} {o : Oper} {a : Act} {w : World} {K : Act → World → Prop} {Q : Exit → Act → World → Prop} {E : Prop}
    (hg : o.guard = none) (d x : Operand) (dT sT : TypeId) (hop : o.op = Op.call { callee := Callee.builtin Builtin.copy, args := #[d, x], argTypes := #[dT, sT] })
    (elem : TypeId) (hu : Tryz.prog.underlying dT = some (.slice elem)) (hz : ∀ w, (Go.sizeOf elem).run Tryz.prog w = .ok 1 w)
    (b off dLen dCap : Nat) (hd : a.eval d = .slice (some ⟨b, off, none⟩) dLen dCap) (t : ByteArray) (hx : a.eval x = .string t)
    (hc : ∀ j, j < min t.size dLen → (w.cell? ⟨b, off + j, none⟩).isSome = true) (hf : ∀ j, j < min t.size dLen → w.frozen? ⟨b, off + j, none⟩ = false)
    (hK : K (a.put o.dst (goInt (min t.size dLen : Nat))) (w.setCells b off ((t.data.toList.map fun x => Value.int .u8 (x.toNat : Int)).take (min t.size dLen)))) :
    if Region.wanted o (yielded ops a.tmps) = true then Oper.wp Tryz.prog o a w K Q else E := by
  have hw : Region.wanted o (yielded ops a.tmps) = true := by simp [Region.wanted, hg]
  rw [if_pos hw]
  have hrun := run_copy_part w dT sT o.type elem b off dLen dCap t hu hz hc hf
  unfold Oper.wp
  simp [execOp, hop, resolve, invoke, builtin, hd, hx, hrun, Result.andThen]
  exact hK
set_option maxHeartbeats 4000000 in
set_option maxRecDepth 100000 in
theorem blocks_any (w : World) (sa s0 : Nat) (l : List UInt8) (hl : l.length ≤ 100000) (hs : s0 < 18446744073709551616) (h : w.heap[sa]? = some (.cells #[.int .u64 s0] 129 (0, 0))) :
    Calls Tryz.prog 106 #[.string ⟨l.toArray⟩, .func (.func 107) #[.pointer (some ⟨sa, 0, none⟩)] #[]] w fun e w' => e = .returned (.tuple #[]) ∧ w'.heap[sa]? = some (.cells #[.int .u64 (takeAll s0 l)] 129 (0, 0)) ∧ Out (· = sa) w w' := by
  have HH := Lib.hid h
  have HS0 := Lib.hid (Dig.start hs l)
  have hsz : (⟨l.toArray⟩ : ByteArray).size = l.length := by simp [ByteArray.size]
  clear h hs
  go_enter Tryz.func106, Tryz.ntmps106
  go_wp2_with fail
  obtain ⟨wo, rfl⟩ : ∃ wo : World, wo = w := ⟨_, rfl⟩
  go_loopw [4, 5] (fun f _ wr => ∃ (k s : Nat), 8 * k ≤ l.length + 8 ∧ f = .int .i64 ((8 * k : Nat) : Int) ∧ Hid (Dig s0 l k s ∧ wr.heap[sa]? = some (.cells #[.int .u64 s] 129 (0, 0)) ∧ Out (· = sa) wo wr)) (fun f _ _ => (l.length + 8) - (intOf f).toNat)
  case atStart => exact ⟨0, s0, by omega, rfl, Lib.hid ⟨HS0.out, HH.out, Out.refl _ _⟩⟩
  case round =>
    clear HH HS0
    obtain ⟨k, s, hk, rfl, M⟩ := hrel
    by_cases hlt : 8 * k ≤ l.length
    · have i0 : (0 : Int) ≤ ((8 * k : Nat) : Int) := Int.natCast_nonneg _
      have i1 : ((8 * k : Nat) : Int) ≤ (l.length : Int) := by omega
      generalize hK : 8 * k = K at *
      have HKK := Lib.hid hK
      clear hK
      have hd8 := eight_len (l.drop K)
      have HE : Hid (((⟨l.toArray⟩ : ByteArray).extract K l.length).data.toList = l.drop K) := Lib.hid (by rw [Lib.extract_data]; exact List.take_of_length_le (by simp))
      have hu : Tryz.prog.underlying 56 = some (.slice 5) := by simp [go_sem]
      have hz5 : ∀ w : World, (Go.sizeOf 5).run Tryz.prog w = .ok 1 w := fun w => by simp [go_sem]
      have hmix : Tryz.prog.follows Departure.mixedOrders = true := by decide
      have hA : ((wr.alloc (.cells #[.int .u8 0, .int .u8 0, .int .u8 0, .int .u8 0, .int .u8 0, .int .u8 0, .int .u8 0, .int .u8 0] 145)).drew).heap[wr.heap.size]? = some (.cells [Value.int .u8 0, .int .u8 0, .int .u8 0, .int .u8 0, .int .u8 0, .int .u8 0, .int .u8 0, .int .u8 0].toArray 145 (0, 0)) := heap_alloc_new wr _
      have hc : ∀ j, j < min ((⟨l.toArray⟩ : ByteArray).extract K l.length).size 8 → (((wr.alloc (.cells #[.int .u8 0, .int .u8 0, .int .u8 0, .int .u8 0, .int .u8 0, .int .u8 0, .int .u8 0, .int .u8 0] 145)).drew).cell? ⟨wr.heap.size, 0 + j, none⟩).isSome = true := fun j hj => by
        rw [cell_at hA (v := [Value.int .u8 0, .int .u8 0, .int .u8 0, .int .u8 0, .int .u8 0, .int .u8 0, .int .u8 0, .int .u8 0][0 + j]'(by simp; omega)) (by simp)]
        rfl
      have hf : ∀ j, j < min ((⟨l.toArray⟩ : ByteArray).extract K l.length).size 8 → ((wr.alloc (.cells #[.int .u8 0, .int .u8 0, .int .u8 0, .int .u8 0, .int .u8 0, .int .u8 0, .int .u8 0, .int .u8 0] 145)).drew).frozen? ⟨wr.heap.size, 0 + j, none⟩ = false := fun j _ => frozen_at hA _
      have hgr := (Gr.one wr (.cells #[.int .u8 0, .int .u8 0, .int .u8 0, .int .u8 0, .int .u8 0, .int .u8 0, .int .u8 0, .int .u8 0] 145)).trans (Gr.drewn _)
      have hvs : ((((l.map fun x => Value.int .u8 (x.toNat : Int)).drop K).take (l.length - K)).take (min (l.length - K) 8)) = bytesV ((l.drop K).take 8) := by
        unfold bytesV
        rw [List.take_take, List.map_take, List.map_drop]
        by_cases h8 : 8 ≤ l.length - K
        · rw [show min (min (l.length - K) 8) (l.length - K) = 8 by omega]
        · rw [List.take_of_length_le (by simp; omega), List.take_of_length_le (by simp; omega)]
      have hN : (((wr.alloc (.cells #[.int .u8 0, .int .u8 0, .int .u8 0, .int .u8 0, .int .u8 0, .int .u8 0, .int .u8 0, .int .u8 0] 145)).drew).setCells wr.heap.size 0 (((l.map fun x => Value.int .u8 (x.toNat : Int)).drop K).take (l.length - K) |>.take (min (l.length - K) 8))).heap[wr.heap.size]? = some (.cells (bytesV (eight (l.drop K))).toArray 145 (0, 0)) := by
        rw [hvs]
        have q := heap_setCells_same wr.heap.size 145 (bytesV ((l.drop K).take 8)) 0 _ _ hA (by simp [bytesV]; omega)
        rw [q]
        congr 2
        unfold eight bytesV
        rw [List.map_append, List.map_replicate]
        simp
        congr 1
        have e0 : [Value.int IntKind.u8 0, .int .u8 0, .int .u8 0, .int .u8 0, .int .u8 0, .int .u8 0, .int .u8 0, .int .u8 0] = List.replicate 8 (Value.int .u8 0) := rfl
        rw [e0, List.drop_replicate]
        congr 1
        omega
      have hO : Out (· = wr.heap.size) ((wr.alloc (.cells #[.int .u8 0, .int .u8 0, .int .u8 0, .int .u8 0, .int .u8 0, .int .u8 0, .int .u8 0, .int .u8 0] 145)).drew) (((wr.alloc (.cells #[.int .u8 0, .int .u8 0, .int .u8 0, .int .u8 0, .int .u8 0, .int .u8 0, .int .u8 0, .int .u8 0] 145)).drew).setCells wr.heap.size 0 (((l.map fun x => Value.int .u8 (x.toNat : Int)).drop K).take (l.length - K) |>.take (min (l.length - K) 8))) := Out.setCells (F := (· = wr.heap.size)) rfl _ _ _
      have HN := Lib.hid hN
      have HB := Lib.hid (show Below wr.heap.size wr _ from ((Out.of_below (F := fun _ => False) hgr.below).trans hO (fun k hk => Or.inr (by rw [hk]; exact Nat.le_refl _))).below (Nat.le_refl _) (fun _ e => e.elim))
      clear hA hgr hvs hN hO
      go_wp2_with fail
      go_region_law_o (refine step_copy_part rfl (.tmp 12) (.tmp 15) 56 9 rfl 5 hu hz5 wr.heap.size 0 8 8 (by simp [Act.eval, Act.put]) ((⟨l.toArray⟩ : ByteArray).extract K l.length) (by simp [Act.eval, Act.put]) hc hf ?_)
      generalize ((wr.alloc (.cells #[.int .u8 0, .int .u8 0, .int .u8 0, .int .u8 0, .int .u8 0, .int .u8 0, .int .u8 0, .int .u8 0] 145)).drew).setCells wr.heap.size 0 (((l.map fun x => Value.int .u8 (x.toNat : Int)).drop K).take (l.length - K) |>.take (min (l.length - K) 8)) = w2 at *
      obtain ⟨x0, x1, x2, x3, x4, x5, x6, x7, hx⟩ : ∃ x0 x1 x2 x3 x4 x5 x6 x7, eight (l.drop K) = [x0, x1, x2, x3, x4, x5, x6, x7] := by
        match eight (l.drop K), hd8 with
        | [x0, x1, x2, x3, x4, x5, x6, x7], _ => exact ⟨x0, x1, x2, x3, x4, x5, x6, x7, rfl⟩
      have h2 := HN.out
      rw [hx] at h2
      have y0 : w2.cell? ⟨wr.heap.size, 0, none⟩ = some (.int .u8 (x0.toNat : Int)) := cell_at h2 rfl
      have y1 : w2.cell? ⟨wr.heap.size, 1, none⟩ = some (.int .u8 (x1.toNat : Int)) := cell_at h2 rfl
      have y2 : w2.cell? ⟨wr.heap.size, 2, none⟩ = some (.int .u8 (x2.toNat : Int)) := cell_at h2 rfl
      have y3 : w2.cell? ⟨wr.heap.size, 3, none⟩ = some (.int .u8 (x3.toNat : Int)) := cell_at h2 rfl
      have y4 : w2.cell? ⟨wr.heap.size, 4, none⟩ = some (.int .u8 (x4.toNat : Int)) := cell_at h2 rfl
      have y5 : w2.cell? ⟨wr.heap.size, 5, none⟩ = some (.int .u8 (x5.toNat : Int)) := cell_at h2 rfl
      have y6 : w2.cell? ⟨wr.heap.size, 6, none⟩ = some (.int .u8 (x6.toNat : Int)) := cell_at h2 rfl
      have y7 : w2.cell? ⟨wr.heap.size, 7, none⟩ = some (.int .u8 (x7.toNat : Int)) := cell_at h2 rfl
      have HT := Lib.hid (take_any w2 sa s (eight (l.drop K)) hd8 M.out.1.1 ((HB.out.block _ (heap_lt M.out.2.1)).trans M.out.2.1))
      have HD := Lib.hid (HKK.out ▸ M.out.1.step (by rw [HKK.out]; exact hlt) : Dig s0 l (k + 1) (mixN (s ^^^ blk (eight (l.drop K)))))
      rw [hx] at HT
      have HX := Lib.hid hx
      clear h2 hx hc hf hu hz5 hmix hd8
      go_wp2_with fail
      refine HT.out.mono ?_
      rintro e w3 ⟨rfl, g1, g2⟩
      have G := Lib.hid (And.intro g1 g2)
      clear g1 g2 HT y0 y1 y2 y3 y4 y5 y6 y7
      go_wp2_with fail
      go_roundw
      case rel => exact ⟨k + 1, _, by have := HKK.out; omega, by congr 1; have := HKK.out; omega, Lib.hid ⟨HD.out, by rw [HX.out]; exact G.out.1, (M.out.2.2.trans (Out.of_below (F := (· = sa)) HB.out) (fun _ e => Or.inl e)).trans G.out.2 (fun _ e => Or.inl e)⟩⟩
      case measure => simp [intOf]; omega
    · have i1 : ¬ ((8 * k : Nat) : Int) ≤ (l.length : Int) := by omega
      go_wp2_with fail
      go_end0
      have e := M.out.1.done (by omega)
      refine ⟨rfl, ?_, M.out.2.2⟩
      rw [← e]; exact M.out.2.1
theorem repeat_one (n : Nat) (c : UInt8) : Lib.repeatL [c] n = List.replicate n c := by
  induction n with
  | zero => rfl
  | succ n ih => rw [Lib.repeatL, ih, List.replicate_succ]; rfl
theorem str_app (a b : List UInt8) : (⟨(a ++ b).toArray⟩ : ByteArray) = ⟨a.toArray⟩ ++ ⟨b.toArray⟩ := by
  apply ByteArray.ext; simp
set_option maxHeartbeats 4000000 in
set_option maxRecDepth 100000 in
theorem sum_any (w : World) (l : List UInt8) (hl : l.length ≤ 100000) (hL : Laid w) :
    Calls Tryz.prog 91 #[.string ⟨l.toArray⟩] w fun e w' => e = .returned (.string ⟨(dig l).toArray⟩) ∧ Below w.heap.size w w' := by
  have HL := Lib.hid hL
  have hsz : (⟨l.toArray⟩ : ByteArray).size = l.length := by simp [ByteArray.size]
  have hx : bits .xor .u64 7640891576956012809 (l.length : Int) = ((7640891576956012809 ^^^ l.length : Nat) : Int) := bits_xor_u64_nat 7640891576956012809 l.length (by decide) (by omega)
  have HS : Hid (7640891576956012809 ^^^ l.length < 18446744073709551616) := Lib.hid (Nat.xor_lt_two_pow (n := 64) (by decide) (by omega))
  have HD := Lib.hid (show dig l = hexs 16 (takeAll (7640891576956012809 ^^^ l.length) l) [] from rfl)
  have HU := Lib.hid (take_lt l.length (7640891576956012809 ^^^ l.length) l (Nat.le_refl _))
  generalize 7640891576956012809 ^^^ l.length = s0 at *
  have HA := Lib.hid (heap_alloc_new w (.cells #[.int .u64 (s0 : Int)] 129))
  have HB := Lib.hid (Gr.one w (.cells #[.int .u64 (s0 : Int)] 129)).below
  have HBK := Lib.hid (blocks_any (w.alloc (.cells #[.int .u64 (s0 : Int)] 129)) w.heap.size s0 l hl HS.out HA.out)
  clear hL
  go_enter Tryz.func91, Tryz.ntmps91
  go_wp2_with fail
  refine HBK.out.mono ?_
  rintro e w1 ⟨rfl, g1, g2⟩
  have G1 := Lib.hid g1
  have HB1 := Lib.hid (HB.out.trans ((g2.below (B := w.heap.size) (by simp) (fun k hk => by rw [hk]; exact Nat.le_refl _))))
  have L1 := Lib.hid (HL.out.keep HB1.out)
  have c1 : w1.cell? ⟨w.heap.size, 0, none⟩ = some (.int .u64 (takeAll s0 l : Nat)) := cell_at g1 rfl
  clear g1 g2 HBK hx
  generalize takeAll s0 l = U at *
  go_wp2_with fail
  refine (funit w1 U (by simpa using HU.out) L1.out.tz).mono ?_
  rintro e w2 ⟨m, rfl, h1, h2, h3, h4⟩
  have hml : (⟨(hexs m U []).toArray⟩ : ByteArray).size = m := by simp [ByteArray.size, hexs_len]
  have H1 := Lib.hid h1
  have H4 := Lib.hid h4
  clear h1 h4
  have hm0 : (0 : Int) ≤ (m : Int) := Int.natCast_nonneg _
  have hm1 : (m : Int) ≤ 16 := by omega
  go_wp2_with fail
  have e16 : (16 : Int) - (m : Int) = ((16 - m : Nat) : Int) := by omega
  rw [e16]
  refine (Tryz.strings_Repeat ⟨#[48]⟩ (16 - m) _ (by omega) (by simp [ByteArray.size]; omega)).mono ?_
  rintro e w3 ⟨rfl, hb3⟩
  have H3 := Lib.hid hb3
  clear hb3 e16
  have HR : Hid (Lib.repeatL (⟨#[48]⟩ : ByteArray).data.toList (16 - m) = List.replicate (16 - m) 48) := Lib.hid (repeat_one _ _)
  rw [HR.out]
  have hrl : (⟨(List.replicate (16 - m) (48 : UInt8)).toArray⟩ : ByteArray).size = 16 - m := by simp [ByteArray.size]
  go_wp2_with fail
  go_ret
  refine ⟨?_, (HB1.out.trans (H4.out.mono HB1.out.size)).trans (H3.out.mono (Nat.le_trans HB1.out.size H4.out.size))⟩
  have e := hexs_pad m U H1.out (16 - m)
  rw [show m + (16 - m) = 16 by omega] at e
  rw [HD.out, e, str_app, List.toArray_replicate]; rfl
end Go.Proofs.YtihoomlaggihlaaGreatDoor
