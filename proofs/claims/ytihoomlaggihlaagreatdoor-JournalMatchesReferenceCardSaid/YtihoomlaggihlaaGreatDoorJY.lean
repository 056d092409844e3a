/- What lies in memory; the contract of FormatUint at base 16. Under the condition that the tables lie in memory as the program lays them. -/
import Derived.Test.YtihoomlaggihlaaGreatDoorJW
import Derived.Test.YtihoomlaggihlaaGreatDoorShA
import Derived.Lib.SmallJoins
import Derived.Laws.Bits64
namespace Go.Proofs.YtihoomlaggihlaaGreatDoor
open Go.RowKit

/-- an error variable of the library's -/
def ErrAt (w : World) (g : Nat) : Prop := ∃ ev, w.cell? ⟨g, 0, none⟩ = some ev ∧ (ev = .nilIface ∨ ∃ te pe, ev = .iface te pe)
/-- the tables and the library's variables lie in memory -/
structure Laid (w : World) : Prop where
  tz : w.cell? ⟨5, 15, none⟩ = some (.int .u8 4)
  pow : Lib.TabIs Tryz.prog w "internal/strconv.uint64pow10" .u64 Lib.pow10Tab
  e0 : ErrAt w 0
  e1 : ErrAt w 1
  ml : ∃ m : Int, w.cell? ⟨2, 0, none⟩ = some (.int .i64 m)
  size : 6 ≤ w.heap.size
theorem Laid.keep {w w' : World} (h : Laid w) (hb : Below w.heap.size w w') : Laid w' := by
  obtain ⟨h1, h2, ⟨e1, c1, d1⟩, ⟨e2, c2, d2⟩, ⟨m, c3⟩, h3⟩ := h
  refine ⟨by rw [hb.cell (p := ⟨5, 15, none⟩) (by simp; omega)]; exact h1, ?_, ⟨e1, cell_later hb c1, d1⟩, ⟨e2, cell_later hb c2, d2⟩, ⟨m, cell_later hb c3⟩, Nat.le_trans h3 hb.size⟩
  exact Joins.tab_stays (show Tryz.prog.globalNamed "internal/strconv.uint64pow10" = some 3 by kernel_rfl) h2 hb (Nat.le_refl _)
theorem Laid.out {w w' : World} {F : Nat → Prop} (h : Laid w) (o : Out F w w') (hF : ∀ k, F k → 6 ≤ k) : Laid w' := by
  have hb : Below 6 w w' := o.below h.size hF
  obtain ⟨h1, h2, ⟨e1, c1, d1⟩, ⟨e2, c2, d2⟩, ⟨m, c3⟩, h3⟩ := h
  refine ⟨by rw [hb.cell (p := ⟨5, 15, none⟩) (by simp)]; exact h1, ?_, ⟨e1, by rw [hb.cell (p := ⟨0, 0, none⟩) (by simp)]; exact c1, d1⟩, ⟨e2, by rw [hb.cell (p := ⟨1, 0, none⟩) (by simp)]; exact c2, d2⟩, ⟨m, by rw [hb.cell (p := ⟨2, 0, none⟩) (by simp)]; exact c3⟩, Nat.le_trans h3 hb.size⟩
  exact var?_below hb (show Tryz.prog.globalNamed "internal/strconv.uint64pow10" = some 3 by kernel_rfl) (by decide) h2

set_option maxHeartbeats 4000000 in
set_option maxRecDepth 100000 in
theorem tz_16 (w : World) (h : w.cell? ⟨5, 15, none⟩ = some (.int .u8 4)) :
    Calls Tryz.prog 134 #[.int .u64 16] w fun e w' => e = .returned (.int .i64 4) ∧ w = w' := by
  have e1 : bits BinOp.and IntKind.u64 16 (IntKind.u64.wrap (-16)) = 16 := by decide +kernel
  have e2 : IntKind.u64.wrap (16 * 285870213051353865) / 288230376151711744 = 15 := by decide +kernel
  go_enter Tryz.func134, Tryz.ntmps134
  go_wp2
  go_ret
  exact ⟨rfl, rfl⟩
theorem hexs_top : ∀ (k U : Nat), hexs (k + 1) U [] = hd (U / 16 ^ k % 16) :: hexs k U []
  | 0, U => by simp [hexs]
  | k + 1, U => by
    rw [hexs, hexs_app, hexs_top k (U / 16), Nat.div_div_eq_div_mul, show 16 * 16 ^ k = 16 ^ (k + 1) by rw [Nat.pow_succ, Nat.mul_comm]]
    rw [List.cons_append, ← hexs_app, ← hexs]
theorem dg36 (q : Nat) (h : q < 16) (h' : q < (⟨#[48, 49, 50, 51, 52, 53, 54, 55, 56, 57, 97, 98, 99, 100, 101, 102, 103, 104, 105, 106, 107, 108, 109, 110, 111, 112, 113, 114, 115, 116, 117, 118, 119, 120, 121, 122]⟩ : ByteArray).size) : (⟨#[48, 49, 50, 51, 52, 53, 54, 55, 56, 57, 97, 98, 99, 100, 101, 102, 103, 104, 105, 106, 107, 108, 109, 110, 111, 112, 113, 114, 115, 116, 117, 118, 119, 120, 121, 122]⟩ : ByteArray)[q] = hd q := by
  have key : ∀ q, q < 16 → #[48, 49, 50, 51, 52, 53, 54, 55, 56, 57, 97, 98, 99, 100, 101, 102, 103, 104, 105, 106, 107, 108, 109, 110, 111, 112, 113, 114, 115, 116, 117, 118, 119, 120, 121, 122][q]? = some (hd q) := by decide
  have k := key q h
  obtain ⟨_, e⟩ := Array.getElem?_eq_some_iff.1 k
  exact e
/-- the buffer of digits: the last k hexadecimal digits of U at its end -/
def hexL (k U : Nat) : List Value := List.replicate (65 - k) (.int .u8 0) ++ bytesV (hexs k U [])
theorem hexL_len {k U : Nat} (h : k ≤ 65) : (hexL k U).length = 65 := by simp [hexL, bytesV, hexs_len]; omega
theorem hexL_set {k U : Nat} (h : k < 65) : (hexL k U).set (64 - k) (.int .u8 ((hd (U / 16 ^ k % 16)).toNat : Int)) = hexL (k + 1) U := by
  unfold hexL
  rw [List.set_append_left _ _ (by simp; omega), hexs_top, show 65 - k = (64 - k) + 1 by omega, List.replicate_succ', List.set_append_right _ _ (by simp), show 65 - (k + 1) = 64 - k by omega]
  simp [bytesV]
theorem zero144 : Tryz.zeroCells158 = (hexL 0 0).toArray := by kernel_rfl
theorem hexL_zero (U V : Nat) : hexL 0 U = hexL 0 V := by simp [hexL, hexs]
/-- a digit stored -/
theorem hexL_put {w w1 : World} {A k U j Q : Nat} (h : w1.heap[A]? = some (.cells (hexL k U).toArray 158 (0, 0))) (hj : j + k = 64) (hQ : U / 16 ^ k = Q) (hb : Below A w w1) : (w1.setCell ⟨A, j, none⟩ (.int .u8 ((hd (Q % 16)).toNat : Int))).heap[A]? = some (.cells (hexL (k + 1) U).toArray 158 (0, 0)) ∧ Below A w (w1.setCell ⟨A, j, none⟩ (.int .u8 ((hd (Q % 16)).toNat : Int))) := by
  refine ⟨?_, hb.setCell (Nat.le_refl _) _⟩
  have e := heap_setCell_same w1 A j _ _ (.int .u8 ((hd (Q % 16)).toNat : Int)) h
  rw [e, ← hexL_set (k := k) (U := U) (by omega), hQ, show 64 - k = j by omega]
  simp
set_option maxHeartbeats 4000000 in
set_option maxRecDepth 100000 in
theorem fbits (w : World) (U : Nat) (hU : U < 18446744073709551616) (h : w.cell? ⟨5, 15, none⟩ = some (.int .u8 4)) :
    Calls Tryz.prog 126 #[.slice none 0 0, .int .u64 U, .int .i64 16, .bool false, .bool false] w fun e w' => ∃ m, e = .returned (.tuple #[.slice none 0 0, .string ⟨(hexs m U []).toArray⟩]) ∧ U < 16 ^ m ∧ 1 ≤ m ∧ m ≤ 16 ∧ Below w.heap.size w w' := by
  have HU := Lib.hid hU
  have H5 := Lib.hid h
  have e0 : bits BinOp.and IntKind.i64 16 15 = 0 := by decide +kernel
  have HB0 := Lib.hid ((Below.refl w.heap.size w).alloc (Nat.le_refl _) (.cells Tryz.zeroCells158 158))
  have HA0 : Hid ((w.alloc (.cells Tryz.zeroCells158 158)).heap[w.heap.size]? = some (.cells (hexL 0 U).toArray 158 (0, 0))) := Lib.hid (by rw [hexL_zero U 0, ← zero144]; exact heap_alloc_new w _)
  clear h hU
  go_enter Tryz.func126, Tryz.ntmps126
  go_wp2_with (go_at_call 133; go_in)
  refine (tz_16 _ (cell_later ((Below.refl w.heap.size w).alloc (Nat.le_refl _) (.cells Tryz.zeroCells158 158)) H5.out)).mono ?_
  rintro e w1 ⟨rfl, rfl⟩
  go_wp2_with fail
  clear e0
  generalize w.alloc (.cells Tryz.zeroCells158 158) = w1 at *
  obtain ⟨wo, rfl⟩ : ∃ wo : World, wo = w := ⟨_, rfl⟩
  go_loopw [1, 13] (fun u i wr => ∃ k : Nat, k ≤ 15 ∧ u = .int .u64 ((U / 16 ^ k : Nat) : Int) ∧ i = .int .i64 ((64 - k : Nat) + 1 : Int) ∧ Hid (wr.heap[wo.heap.size]? = some (.cells (hexL k U).toArray 158 (0, 0))) ∧ Hid (Below wo.heap.size wo wr)) (fun _ i _ => (intOf i).toNat)
  case atStart => exact ⟨0, by omega, by simp, rfl, HA0, HB0⟩
  case round =>
    clear HA0 HB0
    obtain ⟨k, hk, rfl, rfl, HA, HB⟩ := hrel
    have hq := Nat.lt_of_le_of_lt (Nat.div_le_self U (16 ^ k)) HU.out
    generalize hQ : U / 16 ^ k = Q at *
    have HQ := Lib.hid hQ
    clear hQ
    have hcl : (hexL k U).toArray[64 - k]? = some (.int .u8 0) := by
      rw [List.getElem?_toArray]; unfold hexL
      rw [List.getElem?_append_left (by simp; omega), List.getElem?_replicate, if_pos (by omega)]
    have ca := cell_at HA.out hcl
    have fa := frozen_at HA.out (64 - k)
    have hlt := heap_lt HA.out
    clear hcl
    have HJ := Lib.hid (show 64 - k + k = 64 by omega)
    have hj : 64 - k ≤ 64 := by omega
    generalize 64 - k = j at *
    by_cases hb : 16 ≤ Q
    · have hk15 : k < 15 := by
        rcases Nat.lt_or_ge k 15 with h | h
        · exact h
        · exfalso
          have e : k = 15 := by omega
          have h1 := HQ.out
          have h2 := HU.out
          rw [e] at h1
          omega
      have b1 : bits BinOp.and IntKind.u64 (Q : Int) 15 = ((Q % 16 : Nat) : Int) := by
        have := u64_and_nat Q 15 hq (by decide)
        rw [show Q &&& 15 = Q % 16 from Nat.and_two_pow_sub_one_eq_mod Q 4] at this
        exact this
      go_wp2_with fail
      go_roundw
      case rel =>
        have P := hexL_put HA.out HJ.out HQ.out HB.out
        refine ⟨k + 1, by omega, ?_, ?_, ?_, ?_⟩
        · congr 1
          rw [Nat.pow_succ, ← Nat.div_div_eq_div_mul, HQ.out]; rfl
        · congr 1
          have := HJ.out
          omega
        · rw [dg36 (Q % 16) (Nat.mod_lt _ (by decide))]
          exact Lib.hid P.1
        · rw [dg36 (Q % 16) (Nat.mod_lt _ (by decide))]
          exact Lib.hid P.2
      case measure => simp [intOf]
    · have hb2 : Q < 16 := by omega
      clear hb
      have j0 : (0 : Int) ≤ (j : Int) := Int.natCast_nonneg _
      have j1 : (j : Int) ≤ 65 := by omega
      have j2 : ¬ 65 = j := by omega
      have kc : ∀ (W : World), W.heap[wo.heap.size]? = some (.cells (hexL (k + 1) U).toArray 158 (0, 0)) → (convert 56 9 (.slice (some ⟨wo.heap.size, j, none⟩) (65 - j) (65 - j))).run Tryz.prog W = .ok (.string ⟨(hexs (k + 1) U []).toArray⟩) W := fun W hW => by
        have hl : (hexs (k + 1) U []).length = 65 - j := by rw [hexs_len]; have := HJ.out; simp; omega
        have c := run_convert_bytes_back (P := Tryz.prog) W 56 9 5 ⟨wo.heap.size, j, none⟩ (65 - j) (hexs (k + 1) U []) Tryz.underlying56 Tryz.underlying5 Tryz.underlying9 (fun m hm => by
          have hadd : (⟨wo.heap.size, j, none⟩ : Addr).add m = ⟨wo.heap.size, j + m, none⟩ := by unfold Addr.add; split <;> simp_all
          rw [hadd]
          refine cell_at hW ?_
          rw [List.getElem?_toArray]; unfold hexL
          have := HJ.out
          rw [List.getElem?_append_right (by simp; omega)]
          simp only [List.length_replicate]
          rw [show j + m - (65 - (k + 1)) = m by omega]
          simp [bytesV, hm])
        rw [hl] at c
        exact c
      have P := hexL_put HA.out HJ.out HQ.out HB.out
      rw [Nat.mod_eq_of_lt hb2] at P
      have HP := Lib.hid P
      have HK := Lib.hid kc
      clear P kc
      go_wp2_with fail
      rw [dg36 Q hb2, HK.out _ HP.out.1]
      go_wp2_with fail
      go_ret2
      refine ⟨k + 1, rfl, ?_, by omega, by omega, HP.out.2⟩
      have h1 := HQ.out
      have h2 := Nat.div_add_mod U (16 ^ k)
      have h3 := Nat.mod_lt U (show 0 < 16 ^ k from Nat.pos_of_ne_zero (by simp))
      rw [h1] at h2
      rw [Nat.pow_succ]
      have h4 : 16 ^ k * Q ≤ 16 ^ k * 15 := Nat.mul_le_mul_left _ (by omega)
      omega
theorem hexs_pad : ∀ (m U : Nat), U < 16 ^ m → ∀ d, hexs (m + d) U [] = List.replicate d 48 ++ hexs m U []
  | m, U, h, 0 => by simp
  | m, U, h, d + 1 => by
    rw [← Nat.add_assoc, hexs_top, hexs_pad m U h d]
    have e : U / 16 ^ (m + d) = 0 := Nat.div_eq_of_lt (Nat.lt_of_lt_of_le h (Nat.pow_le_pow_right (by decide) (by omega)))
    rw [e, List.replicate_succ]
    rfl
set_option maxHeartbeats 4000000 in
set_option maxRecDepth 100000 in
theorem funit (w : World) (U : Nat) (hU : U < 18446744073709551616) (h : w.cell? ⟨5, 15, none⟩ = some (.int .u8 4)) :
    Calls Tryz.prog 108 #[.int .u64 U, .int .i64 16] w fun e w' => ∃ m, e = .returned (.string ⟨(hexs m U []).toArray⟩) ∧ U < 16 ^ m ∧ 1 ≤ m ∧ m ≤ 16 ∧ Below w.heap.size w w' := by
  have HF := Lib.hid (fbits w U hU h)
  clear hU h
  go_enter Tryz.func108, Tryz.ntmps108
  go_wp2_with (go_at_call 118; go_in)
  refine HF.out.mono ?_
  rintro e w1 ⟨m, rfl, h1, h2, h3, h4⟩
  have H1 := Lib.hid h1
  have H4 := Lib.hid h4
  clear h1 h4 HF
  go_wp2_with fail
  go_ret
  exact ⟨m, rfl, H1.out, h2, h3, H4.out⟩
end Go.Proofs.YtihoomlaggihlaaGreatDoor
