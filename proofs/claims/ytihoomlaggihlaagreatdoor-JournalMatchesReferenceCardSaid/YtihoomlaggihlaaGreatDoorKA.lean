/- The contracts of the journal's digits, zero, seal, head and sector. Under the condition that the tables lie in memory as the program lays them. -/
import Derived.Test.YtihoomlaggihlaaGreatDoorJZ
import Derived.Lib.SlBuf
namespace Go.Proofs.YtihoomlaggihlaaGreatDoor
open Go.RowKit

set_option maxHeartbeats 4000000 in
set_option maxRecDepth 100000 in
theorem digits_any (w : World) (n W : Nat) (hW : W ≤ 8) (hn : n < 10 ^ W) (hW1 : 1 ≤ W) (hL : Laid w) :
    Calls Tryz.prog 71 #[.int .i64 n, .int .i64 W] w fun e w' => e = .returned (.string ⟨(decs W n []).toArray⟩) ∧ Below w.heap.size w w' := by
  obtain ⟨V, rfl⟩ : ∃ V, W = V + 1 := ⟨W - 1, by omega⟩
  have hp := pad_dec V n hn
  have hn8 : n < 100000000 := Nat.lt_of_lt_of_le hn (Nat.pow_le_pow_right (by decide) hW)
  have HL := Lib.hid hL
  have HE := Lib.hid hp.2
  have hlen := hp.1
  generalize hV : V + 1 = W at *
  have HIT := Lib.hid (show Lib.itoa (n : Int) = Lib.decDigits n by unfold Lib.itoa; rw [if_neg (by omega)]; rfl)
  clear hL hp hn hV V
  go_enter Tryz.func71, Tryz.ntmps71
  go_wp2_with fail
  refine (Tryz.strconv_Itoa (n : Int) (by omega) (by omega) _ HL.out.pow).mono ?_
  rintro e w1 ⟨rfl, k, os, hw1⟩
  have HB : Hid (Below w.heap.size w w1) := Lib.hid (by rw [hw1]; exact Lib.below_grow _ _ (Nat.le_refl _) _ _)
  clear hw1
  rw [HIT.out]
  have hsz : (⟨(Lib.decDigits n).toArray⟩ : ByteArray).size = (Lib.decDigits n).length := by simp [ByteArray.size]
  generalize Lib.decDigits n = D at *
  have h0 : (0 : Int) ≤ (W : Int) - (D.length : Int) := by omega
  have hmx : max (0 : Int) ((W : Int) - (D.length : Int)) = ((W - D.length : Nat) : Int) := by omega
  go_wp2_with fail
  refine (Tryz.strings_Repeat ⟨#[48]⟩ (W - D.length) _ (by omega) (by simp [ByteArray.size]; omega)).mono ?_
  rintro e w2 ⟨rfl, hb2⟩
  have H2 := Lib.hid hb2
  clear hb2 hmx h0
  have HR : Hid (Lib.repeatL (⟨#[48]⟩ : ByteArray).data.toList (W - D.length) = List.replicate (W - D.length) 48) := Lib.hid (repeat_one _ _)
  rw [HR.out]
  have hrl : (⟨(List.replicate (W - D.length) (48 : UInt8)).toArray⟩ : ByteArray).size = W - D.length := by simp [ByteArray.size]
  go_wp2_with fail
  go_ret
  refine ⟨?_, HB.out.trans (H2.out.mono HB.out.size)⟩
  rw [← HE.out, str_app, List.toArray_replicate]; rfl
theorem repeat_zero (n : Nat) : Lib.repeatL (⟨#[0]⟩ : ByteArray).data.toList n = List.replicate n 0 := repeat_one n 0
set_option maxHeartbeats 4000000 in
set_option maxRecDepth 100000 in
theorem zero_any (w : World) : Calls Tryz.prog 40 #[] w fun e w' => e = .returned (.string ⟨zeroT.toArray⟩) ∧ Below w.heap.size w w' := by
  have HZ := Lib.hid (show Lib.repeatL (⟨#[0]⟩ : ByteArray).data.toList 64 = zeroT from repeat_zero 64)
  go_enter Tryz.func40, Tryz.ntmps40
  go_wp2_with fail
  refine (Tryz.strings_Repeat ⟨#[0]⟩ 64 _ (by omega) (by simp [ByteArray.size])).mono ?_
  rintro e w2 ⟨rfl, hb2⟩
  have H2 := Lib.hid hb2
  clear hb2
  rw [HZ.out]
  go_wp2_with fail
  go_ret
  exact ⟨rfl, H2.out⟩
theorem fill_zero (c : List UInt8) : (List.replicate 48 (Value.int .u8 0)).take 0 ++ bytesV c ++ (List.replicate 48 (Value.int .u8 0)).drop (0 + (bytesV c).length) = bytesV (fillT c) := by
  have e : (bytesV c).length = c.length := by simp [bytesV]
  rw [List.drop_replicate, e, List.take_zero, List.nil_append]
  unfold fillT bytesV
  rw [List.map_append, List.map_replicate, Nat.zero_add]
  rfl
/-- the copy of a content into a sector's array -/
theorem wpList_seal {ops : Array Oper} {rest : List Oper} {o : Oper} {a : Act} {Q : Exit → Act → World → Prop} {w0 W : World} {c : List UInt8} (hgd : o.guard = none) (d s : Operand)
    (ho : o.op = .call { callee := .builtin .copy, args := #[d, s], argTypes := #[56, 9] }) (hd : a.eval d = .slice (some ⟨w0.heap.size, 0, none⟩) 48 48) (hs : a.eval s = .string ⟨c.toArray⟩) (hc : c.length ≤ 48)
    (hA : W.heap[w0.heap.size]? = some (.cells (List.replicate 48 (Value.int .u8 0)).toArray 114 (0, 0))) (hB : Below w0.heap.size w0 W)
    (h : ∀ w2, w2.heap[w0.heap.size]? = some (.cells (bytesV (fillT c)).toArray 114 (0, 0)) → Below w0.heap.size w0 w2 → wpList Tryz.prog ops Q rest (a.put o.dst (goInt (c.length : Nat))) w2) : wpList Tryz.prog ops Q (o :: rest) a W := by
  have hu : Tryz.prog.underlying 56 = some (.slice 5) := by simp [go_sem]
  have hz5 : ∀ w : World, (Go.sizeOf 5).run Tryz.prog w = .ok 1 w := fun w => by simp [go_sem]
  have hcz : (⟨c.toArray⟩ : ByteArray).size = c.length := by simp [ByteArray.size]
  have hr := run_copy_string (P := Tryz.prog) W 56 9 o.type 5 w0.heap.size 0 48 48 ⟨c.toArray⟩ hu hz5 (by rw [hcz]; exact hc)
    (fun j hj => by rw [hcz] at hj; rw [cell_at hA (v := .int .u8 0) (by rw [List.getElem?_toArray, List.getElem?_replicate, if_pos (by omega)])]; rfl) (fun j _ => frozen_at hA _)
  rw [hcz] at hr
  have q := heap_setCells_same w0.heap.size 114 (bytesV c) 0 _ _ hA (by simp [bytesV]; omega)
  rw [fill_zero] at q
  have HO : Out (· = w0.heap.size) W (W.setCells w0.heap.size 0 (bytesV c)) := Out.setCells (F := (· = w0.heap.size)) rfl _ _ _
  exact Lib.wpList_copy_run W hgd d s 56 9 ho _ _ hd hs hr (h _ q (hB.trans (HO.below hB.size (fun k hk => by rw [hk]; exact Nat.le_refl _))))
set_option maxHeartbeats 4000000 in
set_option maxRecDepth 100000 in
theorem seal_any (w : World) (p : Nat) (c : List UInt8) (hp : p < 10 ^ 8) (hc : c.length ≤ 48) (hL : Laid w) :
    Calls Tryz.prog 70 #[.int .i64 p, .string ⟨c.toArray⟩] w fun e w' => e = .returned (.string ⟨(sealP p c).toArray⟩) ∧ Below w.heap.size w w' := by
  have HL := Lib.hid hL
  have HP := Lib.hid hp
  have HS := Lib.hid (show sealP p c = dig (decs 8 p [] ++ fillT c) ++ fillT c from rfl)
  have HFL := Lib.hid (fill_len hc)
  clear hL hp
  go_enter Tryz.func70, Tryz.ntmps70
  go_wp2_with (refine wpList_seal rfl (.tmp 7) (.tmp 8) rfl (by rfl) (by rfl) hc ?hw ?hb ?_)
  case hw => exact heap_alloc_new _ _
  case hb => exact (Gr.one _ _).below
  intro w2 q hb
  have HB := Lib.hid hb
  have kc := run_convert_bytes_back (P := Tryz.prog) w2 56 9 5 ⟨w.heap.size, 0, none⟩ 48 (fillT c) Tryz.underlying56 Tryz.underlying5 Tryz.underlying9 (fun j hj => by
    have hadd : (⟨w.heap.size, 0, none⟩ : Addr).add j = ⟨w.heap.size, j, none⟩ := by unfold Addr.add; split <;> simp_all
    rw [hadd]
    refine cell_at q ?_
    rw [List.getElem?_toArray]
    simp [bytesV, hj])
  rw [HFL.out] at kc
  clear q hb
  go_wp2_with fail
  clear kc
  generalize fillT c = f at *
  refine (digits_any w2 p 8 (by omega) HP.out (by omega) (HL.out.keep HB.out)).mono ?_
  rintro e w3 ⟨rfl, hb3⟩
  have H3 := Lib.hid (HB.out.trans (hb3.mono HB.out.size))
  clear hb3 HB
  have hd8 : (decs 8 p []).length = 8 := by rw [decs_len]; rfl
  generalize decs 8 p [] = D at *
  have h1 : (⟨D.toArray⟩ : ByteArray).size = D.length := by simp [ByteArray.size]
  have h2 : (⟨f.toArray⟩ : ByteArray).size = f.length := by simp [ByteArray.size]
  have HD8 := Lib.hid hd8
  clear hd8
  have h3 : D.length ≤ 8 := Nat.le_of_eq HD8.out
  have h4 : f.length ≤ 48 := Nat.le_of_eq HFL.out
  go_wp2_with fail
  rw [← str_app]
  refine (sum_any w3 (D ++ f) (by rw [List.length_append]; omega) (HL.out.keep H3.out)).mono ?_
  rintro e w4 ⟨rfl, hb4⟩
  have H4 := Lib.hid (H3.out.trans (hb4.mono H3.out.size))
  clear hb4 H3
  have h5 : (⟨(dig (D ++ f)).toArray⟩ : ByteArray).size = 16 := by simp [ByteArray.size, dig_len]
  generalize dig (D ++ f) = G at *
  go_wp2_with fail
  go_ret
  exact ⟨by rw [HS.out, str_app]; rfl, H4.out⟩
end Go.Proofs.YtihoomlaggihlaaGreatDoor
