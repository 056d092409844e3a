/- The walk of the law ForwardTexts. Under the condition that the tables lie in memory as the program lays them. -/
import Derived.Test.YtngbkdnkpolbfaaDoorFWB
namespace Go.Proofs.YtngbkdnkpolbfaaDoor
open Go.RowKit Go.Maps

/-- two orders differ -/
def HNE (a b : Ord) : Prop := a ≠ b
theorem hne_no {a b : Ord} (h : HNE a b) (h0 : a.id.toList = b.id.toList) (h1 : a.pn.toList = b.pn.toList) (h2 : a.fr.toList = b.fr.toList) (h3 : a.to.toList = b.to.toList) (h4 : a.pf = b.pf) (h5 : a.pu = b.pu) : False := by
  have inj : ∀ x y : ByteArray, x.toList = y.toList → x = y := fun x y e => by
    rw [ByteArray.toList_eq, ByteArray.toList_eq] at e
    exact ByteArray.ext (Array.toList_inj.1 e)
  obtain ⟨ai, ap, af, at', a4, a5⟩ := a
  obtain ⟨bi, bp, bf, bt, b4, b5⟩ := b
  simp only at h0 h1 h2 h3 h4 h5
  rw [inj _ _ h0, inj _ _ h1, inj _ _ h2, inj _ _ h3, h4, h5] at h
  exact h rfl
set_option maxRecDepth 100000 in
set_option maxHeartbeats 8000000 in
theorem texts_few (a b : Ord) (s : ByteArray) (w : World) (HL : Hid (LaidT w)) (HF : Hid (∀ W A c, RdO W A [a, b] → Calls Tryd.prog 10 #[.slice A 2 c] W fun e w' => e = .returned (.bool false) ∧ W = w')) : Calls Tryd.prog 8 #[.agg (encO a), .agg (encO b), .string s] w (Yes w) := by
  go_enter Tryd.func8, Tryd.ntmps8
  go_wp2_with fail
  have T0 := Lib.hid (Below.refl w.heap.size w)
  have hb : Gr w ((w.alloc (.cells (encO a) 26)).alloc (.cells (encO b) 26)) := (Gr.one _ _).alloc _
  have T1 := Lib.hid (T0.out.trans (hb.below.mono T0.out.size))
  clear T0
  have A_1 : Hid (Bx ((w.alloc (.cells (encO a) 26)).alloc (.cells (encO b) 26)) w.heap.size a) := Lib.hid ((Bx.made w a 26).keep (Gr.one _ _).below)
  have B_1 : Hid (Bx ((w.alloc (.cells (encO a) 26)).alloc (.cells (encO b) 26)) (w.heap.size + 1) b) := Lib.hid (by simpa using Bx.made (w.alloc (.cells (encO a) 26)) b 26)
  clear hb
  generalize ((w.alloc (.cells (encO a) 26)).alloc (.cells (encO b) 26)) = w1 at *
  refine (head_any _ (HL.out.keep T1.out)).mono ?_
  rintro e w2 ⟨rfl, hb⟩
  have T2 := Lib.hid (T1.out.trans (hb.mono T1.out.size))
  have A_2 := Lib.hid (A_1.out.keep hb)
  have B_2 := Lib.hid (B_1.out.keep hb)
  clear T1 A_1 B_1
  clear hb
  obtain ⟨_, ⟨a0, a1, a2, a3, a4, a5⟩, _⟩ := A_2.out
  obtain ⟨_, ⟨b0, b1, b2, b3, b4, b5⟩, _⟩ := B_2.out
  go_wp2_with fail
  have hb : Gr w2 (w2.alloc (.cells #[.string a.id, .string a.pn, .string a.fr, .string a.to, .int .i64 a.pf, .int .i64 a.pu, .string b.id, .string b.pn, .string b.fr, .string b.to, .int .i64 b.pf, .int .i64 b.pu] 26)) := Gr.one _ _
  clear a0 a1 a2 a3 a4 a5 b0 b1 b2 b3 b4 b5
  have T3 := Lib.hid (T2.out.trans (hb.below.mono T2.out.size))
  have A_3 := Lib.hid (A_2.out.keep hb.below)
  have B_3 := Lib.hid (B_2.out.keep hb.below)
  clear T2 A_2 B_2
  have R_3 := Lib.hid (RdO.two w2 a b)
  clear hb
  generalize (w2.alloc (.cells #[.string a.id, .string a.pn, .string a.fr, .string a.to, .int .i64 a.pf, .int .i64 a.pu, .string b.id, .string b.pn, .string b.fr, .string b.to, .int .i64 b.pf, .int .i64 b.pu] 26)) = w3 at *
  refine (HF.out _ _ _ R_3.out).mono ?_
  rintro e _ ⟨rfl, rfl⟩
  clear R_3
  obtain ⟨_, ⟨a0, a1, a2, a3, a4, a5⟩, _⟩ := A_3.out
  obtain ⟨_, ⟨b0, b1, b2, b3, b4, b5⟩, _⟩ := B_3.out
  go_wp2_with fail
  go_ret
  exact ⟨rfl, T3.out⟩
set_option maxRecDepth 100000 in
set_option maxHeartbeats 8000000 in
theorem texts_long (a b : Ord) (s : ByteArray) (w : World) (HL : Hid (LaidT w)) (hs : 300 < s.size) (HF : Hid (∀ W A c, RdO W A [a, b] → Calls Tryd.prog 10 #[.slice A 2 c] W fun e w' => e = .returned (.bool true) ∧ W = w')) : Calls Tryd.prog 8 #[.agg (encO a), .agg (encO b), .string s] w (Yes w) := by
  go_enter Tryd.func8, Tryd.ntmps8
  go_wp2_with fail
  have T0 := Lib.hid (Below.refl w.heap.size w)
  have hb : Gr w ((w.alloc (.cells (encO a) 26)).alloc (.cells (encO b) 26)) := (Gr.one _ _).alloc _
  have T1 := Lib.hid (T0.out.trans (hb.below.mono T0.out.size))
  clear T0
  have A_1 : Hid (Bx ((w.alloc (.cells (encO a) 26)).alloc (.cells (encO b) 26)) w.heap.size a) := Lib.hid ((Bx.made w a 26).keep (Gr.one _ _).below)
  have B_1 : Hid (Bx ((w.alloc (.cells (encO a) 26)).alloc (.cells (encO b) 26)) (w.heap.size + 1) b) := Lib.hid (by simpa using Bx.made (w.alloc (.cells (encO a) 26)) b 26)
  clear hb
  generalize ((w.alloc (.cells (encO a) 26)).alloc (.cells (encO b) 26)) = w1 at *
  refine (head_any _ (HL.out.keep T1.out)).mono ?_
  rintro e w2 ⟨rfl, hb⟩
  have T2 := Lib.hid (T1.out.trans (hb.mono T1.out.size))
  have A_2 := Lib.hid (A_1.out.keep hb)
  have B_2 := Lib.hid (B_1.out.keep hb)
  clear T1 A_1 B_1
  clear hb
  obtain ⟨_, ⟨a0, a1, a2, a3, a4, a5⟩, _⟩ := A_2.out
  obtain ⟨_, ⟨b0, b1, b2, b3, b4, b5⟩, _⟩ := B_2.out
  go_wp2_with fail
  have hb : Gr w2 (w2.alloc (.cells #[.string a.id, .string a.pn, .string a.fr, .string a.to, .int .i64 a.pf, .int .i64 a.pu, .string b.id, .string b.pn, .string b.fr, .string b.to, .int .i64 b.pf, .int .i64 b.pu] 26)) := Gr.one _ _
  clear a0 a1 a2 a3 a4 a5 b0 b1 b2 b3 b4 b5
  have T3 := Lib.hid (T2.out.trans (hb.below.mono T2.out.size))
  have A_3 := Lib.hid (A_2.out.keep hb.below)
  have B_3 := Lib.hid (B_2.out.keep hb.below)
  clear T2 A_2 B_2
  have R_3 := Lib.hid (RdO.two w2 a b)
  clear hb
  generalize (w2.alloc (.cells #[.string a.id, .string a.pn, .string a.fr, .string a.to, .int .i64 a.pf, .int .i64 a.pu, .string b.id, .string b.pn, .string b.fr, .string b.to, .int .i64 b.pf, .int .i64 b.pu] 26)) = w3 at *
  refine (HF.out _ _ _ R_3.out).mono ?_
  rintro e _ ⟨rfl, rfl⟩
  clear R_3
  obtain ⟨_, ⟨a0, a1, a2, a3, a4, a5⟩, _⟩ := A_3.out
  obtain ⟨_, ⟨b0, b1, b2, b3, b4, b5⟩, _⟩ := B_3.out
  go_wp2_with fail
  go_ret
  exact ⟨rfl, T3.out⟩
set_option maxRecDepth 100000 in
set_option maxHeartbeats 8000000 in
theorem texts_a0 (a b : Ord) (s t2 : ByteArray) (e2 : Int) (w : World) (HL : Hid (LaidT w)) (hs : s.size ≤ 300) (HF : Hid (∀ W A c, RdO W A [a, b] → Calls Tryd.prog 10 #[.slice A 2 c] W fun e w' => e = .returned (.bool true) ∧ W = w')) (HT1 : Hid (∀ W, LaidT W → Calls Tryd.prog 14 #[.agg (encO a)] W fun e w' => e = .returned (.tuple #[.string ⟨#[]⟩, .int .i64 1]) ∧ Below W.heap.size W w')) (HT2 : Hid (∀ W, LaidT W → Calls Tryd.prog 14 #[.agg (encO b)] W fun e w' => e = .returned (.tuple #[.string t2, .int .i64 e2]) ∧ Below W.heap.size W w')) (HP : Hid (∀ W A c, RdO W A [a] → Calls Tryd.prog 18 #[.slice A 1 c] W fun e w' => e = .returned (.bool false) ∧ Below W.heap.size W w')) (HP2 : Hid (∀ W, LaidT W → Calls Tryd.prog 16 #[.string s] W fun e w' => e = .returned (.tuple #[.agg #[.string ⟨#[]⟩, .string ⟨#[]⟩, .string ⟨#[]⟩, .string ⟨#[]⟩, .int .i64 0, .int .i64 0], .int .i64 5]) ∧ Below W.heap.size W w')) : Calls Tryd.prog 8 #[.agg (encO a), .agg (encO b), .string s] w (Yes w) := by
  go_enter Tryd.func8, Tryd.ntmps8
  go_wp2_with fail
  have T0 := Lib.hid (Below.refl w.heap.size w)
  have hb : Gr w ((w.alloc (.cells (encO a) 26)).alloc (.cells (encO b) 26)) := (Gr.one _ _).alloc _
  have T1 := Lib.hid (T0.out.trans (hb.below.mono T0.out.size))
  clear T0
  have A_1 : Hid (Bx ((w.alloc (.cells (encO a) 26)).alloc (.cells (encO b) 26)) w.heap.size a) := Lib.hid ((Bx.made w a 26).keep (Gr.one _ _).below)
  have B_1 : Hid (Bx ((w.alloc (.cells (encO a) 26)).alloc (.cells (encO b) 26)) (w.heap.size + 1) b) := Lib.hid (by simpa using Bx.made (w.alloc (.cells (encO a) 26)) b 26)
  clear hb
  generalize ((w.alloc (.cells (encO a) 26)).alloc (.cells (encO b) 26)) = w1 at *
  refine (head_any _ (HL.out.keep T1.out)).mono ?_
  rintro e w2 ⟨rfl, hb⟩
  have T2 := Lib.hid (T1.out.trans (hb.mono T1.out.size))
  have A_2 := Lib.hid (A_1.out.keep hb)
  have B_2 := Lib.hid (B_1.out.keep hb)
  clear T1 A_1 B_1
  clear hb
  obtain ⟨_, ⟨a0, a1, a2, a3, a4, a5⟩, _⟩ := A_2.out
  obtain ⟨_, ⟨b0, b1, b2, b3, b4, b5⟩, _⟩ := B_2.out
  go_wp2_with fail
  have hb : Gr w2 (w2.alloc (.cells #[.string a.id, .string a.pn, .string a.fr, .string a.to, .int .i64 a.pf, .int .i64 a.pu, .string b.id, .string b.pn, .string b.fr, .string b.to, .int .i64 b.pf, .int .i64 b.pu] 26)) := Gr.one _ _
  clear a0 a1 a2 a3 a4 a5 b0 b1 b2 b3 b4 b5
  have T3 := Lib.hid (T2.out.trans (hb.below.mono T2.out.size))
  have A_3 := Lib.hid (A_2.out.keep hb.below)
  have B_3 := Lib.hid (B_2.out.keep hb.below)
  clear T2 A_2 B_2
  have R_3 := Lib.hid (RdO.two w2 a b)
  clear hb
  generalize (w2.alloc (.cells #[.string a.id, .string a.pn, .string a.fr, .string a.to, .int .i64 a.pf, .int .i64 a.pu, .string b.id, .string b.pn, .string b.fr, .string b.to, .int .i64 b.pf, .int .i64 b.pu] 26)) = w3 at *
  refine (HF.out _ _ _ R_3.out).mono ?_
  rintro e _ ⟨rfl, rfl⟩
  clear R_3
  obtain ⟨_, ⟨a0, a1, a2, a3, a4, a5⟩, _⟩ := A_3.out
  obtain ⟨_, ⟨b0, b1, b2, b3, b4, b5⟩, _⟩ := B_3.out
  go_wp2_with fail
  refine (HT1.out _ (HL.out.keep T3.out)).mono ?_
  rintro e w4 ⟨rfl, hb⟩
  clear a0 a1 a2 a3 a4 a5 b0 b1 b2 b3 b4 b5
  have T4 := Lib.hid (T3.out.trans (hb.mono T3.out.size))
  have A_4 := Lib.hid (A_3.out.keep hb)
  have B_4 := Lib.hid (B_3.out.keep hb)
  clear T3 A_3 B_3
  clear hb
  obtain ⟨_, ⟨a0, a1, a2, a3, a4, a5⟩, _⟩ := A_4.out
  obtain ⟨_, ⟨b0, b1, b2, b3, b4, b5⟩, _⟩ := B_4.out
  go_wp2_with fail
  refine (HT2.out _ (HL.out.keep T4.out)).mono ?_
  rintro e w5 ⟨rfl, hb⟩
  clear a0 a1 a2 a3 a4 a5 b0 b1 b2 b3 b4 b5
  have T5 := Lib.hid (T4.out.trans (hb.mono T4.out.size))
  have A_5 := Lib.hid (A_4.out.keep hb)
  have B_5 := Lib.hid (B_4.out.keep hb)
  clear T4 A_4 B_4
  clear hb
  obtain ⟨_, ⟨a0, a1, a2, a3, a4, a5⟩, _⟩ := A_5.out
  obtain ⟨_, ⟨b0, b1, b2, b3, b4, b5⟩, _⟩ := B_5.out
  go_wp2_with fail
  have hb : Gr w5 (w5.alloc (.cells #[.string a.id, .string a.pn, .string a.fr, .string a.to, .int .i64 a.pf, .int .i64 a.pu] 26)) := Gr.one _ _
  clear a0 a1 a2 a3 a4 a5 b0 b1 b2 b3 b4 b5
  have T6 := Lib.hid (T5.out.trans (hb.below.mono T5.out.size))
  have A_6 := Lib.hid (A_5.out.keep hb.below)
  have B_6 := Lib.hid (B_5.out.keep hb.below)
  clear T5 A_5 B_5
  have R_6 := Lib.hid (RdO.one w5 a)
  clear hb
  generalize (w5.alloc (.cells #[.string a.id, .string a.pn, .string a.fr, .string a.to, .int .i64 a.pf, .int .i64 a.pu] 26)) = w6 at *
  refine (HP.out _ _ _ R_6.out).mono ?_
  rintro e w7 ⟨rfl, hb⟩
  have T7 := Lib.hid (T6.out.trans (hb.mono T6.out.size))
  have A_7 := Lib.hid (A_6.out.keep hb)
  have B_7 := Lib.hid (B_6.out.keep hb)
  have R_7 := Lib.hid (R_6.out.keep hb)
  clear T6 A_6 B_6 R_6
  clear hb
  clear R_7
  obtain ⟨_, ⟨a0, a1, a2, a3, a4, a5⟩, _⟩ := A_7.out
  obtain ⟨_, ⟨b0, b1, b2, b3, b4, b5⟩, _⟩ := B_7.out
  go_wp2_with fail
  refine (HP2.out _ (HL.out.keep T7.out)).mono ?_
  rintro e w8 ⟨rfl, hb⟩
  clear a0 a1 a2 a3 a4 a5 b0 b1 b2 b3 b4 b5
  have T8 := Lib.hid (T7.out.trans (hb.mono T7.out.size))
  have A_8 := Lib.hid (A_7.out.keep hb)
  have B_8 := Lib.hid (B_7.out.keep hb)
  clear T7 A_7 B_7
  clear hb
  obtain ⟨_, ⟨a0, a1, a2, a3, a4, a5⟩, _⟩ := A_8.out
  obtain ⟨_, ⟨b0, b1, b2, b3, b4, b5⟩, _⟩ := B_8.out
  go_wp2_with fail
  have hb : Gr w8 (w8.alloc (.cells #[.string ⟨#[]⟩, .string ⟨#[]⟩, .string ⟨#[]⟩, .string ⟨#[]⟩, .int .i64 0, .int .i64 0] 26)) := Gr.one _ _
  clear a0 a1 a2 a3 a4 a5 b0 b1 b2 b3 b4 b5
  have T9 := Lib.hid (T8.out.trans (hb.below.mono T8.out.size))
  have A_9 := Lib.hid (A_8.out.keep hb.below)
  have B_9 := Lib.hid (B_8.out.keep hb.below)
  clear T8 A_8 B_8
  have Q_9 : Hid (Bx (w8.alloc (.cells #[.string ⟨#[]⟩, .string ⟨#[]⟩, .string ⟨#[]⟩, .string ⟨#[]⟩, .int .i64 0, .int .i64 0] 26)) w8.heap.size ⟨⟨#[]⟩, ⟨#[]⟩, ⟨#[]⟩, ⟨#[]⟩, 0, 0⟩) := Lib.hid (Bx.made w8 ⟨⟨#[]⟩, ⟨#[]⟩, ⟨#[]⟩, ⟨#[]⟩, 0, 0⟩ 26)
  clear hb
  generalize (w8.alloc (.cells #[.string ⟨#[]⟩, .string ⟨#[]⟩, .string ⟨#[]⟩, .string ⟨#[]⟩, .int .i64 0, .int .i64 0] 26)) = w9 at *
  obtain ⟨_, ⟨a0, a1, a2, a3, a4, a5⟩, _⟩ := A_9.out
  obtain ⟨_, ⟨b0, b1, b2, b3, b4, b5⟩, _⟩ := B_9.out
  obtain ⟨_, ⟨q0, q1, q2, q3, q4, q5⟩, _⟩ := Q_9.out
  go_wp2_with fail
  go_ret
  exact ⟨rfl, T9.out⟩
set_option maxRecDepth 100000 in
set_option maxHeartbeats 8000000 in
theorem texts_b0 (a b : Ord) (s t1 : ByteArray) (w : World) (HL : Hid (LaidT w)) (hs : s.size ≤ 300) (HF : Hid (∀ W A c, RdO W A [a, b] → Calls Tryd.prog 10 #[.slice A 2 c] W fun e w' => e = .returned (.bool true) ∧ W = w')) (HT1 : Hid (∀ W, LaidT W → Calls Tryd.prog 14 #[.agg (encO a)] W fun e w' => e = .returned (.tuple #[.string t1, .int .i64 0]) ∧ Below W.heap.size W w')) (HT2 : Hid (∀ W, LaidT W → Calls Tryd.prog 14 #[.agg (encO b)] W fun e w' => e = .returned (.tuple #[.string ⟨#[]⟩, .int .i64 1]) ∧ Below W.heap.size W w')) (HP : Hid (∀ W A c, RdO W A [a] → Calls Tryd.prog 18 #[.slice A 1 c] W fun e w' => e = .returned (.bool true) ∧ Below W.heap.size W w')) (HP1 : Hid (∀ W, LaidT W → Calls Tryd.prog 16 #[.string t1] W fun e w' => e = .returned (.tuple #[.agg (encO a), .int .i64 0]) ∧ Below W.heap.size W w')) (HP2 : Hid (∀ W, LaidT W → Calls Tryd.prog 16 #[.string s] W fun e w' => e = .returned (.tuple #[.agg #[.string ⟨#[]⟩, .string ⟨#[]⟩, .string ⟨#[]⟩, .string ⟨#[]⟩, .int .i64 0, .int .i64 0], .int .i64 5]) ∧ Below W.heap.size W w')) : Calls Tryd.prog 8 #[.agg (encO a), .agg (encO b), .string s] w (Yes w) := by
  go_enter Tryd.func8, Tryd.ntmps8
  go_wp2_with fail
  have T0 := Lib.hid (Below.refl w.heap.size w)
  have hb : Gr w ((w.alloc (.cells (encO a) 26)).alloc (.cells (encO b) 26)) := (Gr.one _ _).alloc _
  have T1 := Lib.hid (T0.out.trans (hb.below.mono T0.out.size))
  clear T0
  have A_1 : Hid (Bx ((w.alloc (.cells (encO a) 26)).alloc (.cells (encO b) 26)) w.heap.size a) := Lib.hid ((Bx.made w a 26).keep (Gr.one _ _).below)
  have B_1 : Hid (Bx ((w.alloc (.cells (encO a) 26)).alloc (.cells (encO b) 26)) (w.heap.size + 1) b) := Lib.hid (by simpa using Bx.made (w.alloc (.cells (encO a) 26)) b 26)
  clear hb
  generalize ((w.alloc (.cells (encO a) 26)).alloc (.cells (encO b) 26)) = w1 at *
  refine (head_any _ (HL.out.keep T1.out)).mono ?_
  rintro e w2 ⟨rfl, hb⟩
  have T2 := Lib.hid (T1.out.trans (hb.mono T1.out.size))
  have A_2 := Lib.hid (A_1.out.keep hb)
  have B_2 := Lib.hid (B_1.out.keep hb)
  clear T1 A_1 B_1
  clear hb
  obtain ⟨_, ⟨a0, a1, a2, a3, a4, a5⟩, _⟩ := A_2.out
  obtain ⟨_, ⟨b0, b1, b2, b3, b4, b5⟩, _⟩ := B_2.out
  go_wp2_with fail
  have hb : Gr w2 (w2.alloc (.cells #[.string a.id, .string a.pn, .string a.fr, .string a.to, .int .i64 a.pf, .int .i64 a.pu, .string b.id, .string b.pn, .string b.fr, .string b.to, .int .i64 b.pf, .int .i64 b.pu] 26)) := Gr.one _ _
  clear a0 a1 a2 a3 a4 a5 b0 b1 b2 b3 b4 b5
  have T3 := Lib.hid (T2.out.trans (hb.below.mono T2.out.size))
  have A_3 := Lib.hid (A_2.out.keep hb.below)
  have B_3 := Lib.hid (B_2.out.keep hb.below)
  clear T2 A_2 B_2
  have R_3 := Lib.hid (RdO.two w2 a b)
  clear hb
  generalize (w2.alloc (.cells #[.string a.id, .string a.pn, .string a.fr, .string a.to, .int .i64 a.pf, .int .i64 a.pu, .string b.id, .string b.pn, .string b.fr, .string b.to, .int .i64 b.pf, .int .i64 b.pu] 26)) = w3 at *
  refine (HF.out _ _ _ R_3.out).mono ?_
  rintro e _ ⟨rfl, rfl⟩
  clear R_3
  obtain ⟨_, ⟨a0, a1, a2, a3, a4, a5⟩, _⟩ := A_3.out
  obtain ⟨_, ⟨b0, b1, b2, b3, b4, b5⟩, _⟩ := B_3.out
  go_wp2_with fail
  refine (HT1.out _ (HL.out.keep T3.out)).mono ?_
  rintro e w4 ⟨rfl, hb⟩
  clear a0 a1 a2 a3 a4 a5 b0 b1 b2 b3 b4 b5
  have T4 := Lib.hid (T3.out.trans (hb.mono T3.out.size))
  have A_4 := Lib.hid (A_3.out.keep hb)
  have B_4 := Lib.hid (B_3.out.keep hb)
  clear T3 A_3 B_3
  clear hb
  obtain ⟨_, ⟨a0, a1, a2, a3, a4, a5⟩, _⟩ := A_4.out
  obtain ⟨_, ⟨b0, b1, b2, b3, b4, b5⟩, _⟩ := B_4.out
  go_wp2_with fail
  refine (HT2.out _ (HL.out.keep T4.out)).mono ?_
  rintro e w5 ⟨rfl, hb⟩
  clear a0 a1 a2 a3 a4 a5 b0 b1 b2 b3 b4 b5
  have T5 := Lib.hid (T4.out.trans (hb.mono T4.out.size))
  have A_5 := Lib.hid (A_4.out.keep hb)
  have B_5 := Lib.hid (B_4.out.keep hb)
  clear T4 A_4 B_4
  clear hb
  obtain ⟨_, ⟨a0, a1, a2, a3, a4, a5⟩, _⟩ := A_5.out
  obtain ⟨_, ⟨b0, b1, b2, b3, b4, b5⟩, _⟩ := B_5.out
  go_wp2_with fail
  have hb : Gr w5 (w5.alloc (.cells #[.string a.id, .string a.pn, .string a.fr, .string a.to, .int .i64 a.pf, .int .i64 a.pu] 26)) := Gr.one _ _
  clear a0 a1 a2 a3 a4 a5 b0 b1 b2 b3 b4 b5
  have T6 := Lib.hid (T5.out.trans (hb.below.mono T5.out.size))
  have A_6 := Lib.hid (A_5.out.keep hb.below)
  have B_6 := Lib.hid (B_5.out.keep hb.below)
  clear T5 A_5 B_5
  have R_6 := Lib.hid (RdO.one w5 a)
  clear hb
  generalize (w5.alloc (.cells #[.string a.id, .string a.pn, .string a.fr, .string a.to, .int .i64 a.pf, .int .i64 a.pu] 26)) = w6 at *
  refine (HP.out _ _ _ R_6.out).mono ?_
  rintro e w7 ⟨rfl, hb⟩
  have T7 := Lib.hid (T6.out.trans (hb.mono T6.out.size))
  have A_7 := Lib.hid (A_6.out.keep hb)
  have B_7 := Lib.hid (B_6.out.keep hb)
  have R_7 := Lib.hid (R_6.out.keep hb)
  clear T6 A_6 B_6 R_6
  clear hb
  clear R_7
  obtain ⟨_, ⟨a0, a1, a2, a3, a4, a5⟩, _⟩ := A_7.out
  obtain ⟨_, ⟨b0, b1, b2, b3, b4, b5⟩, _⟩ := B_7.out
  go_wp2_with fail
  refine (HP1.out _ (HL.out.keep T7.out)).mono ?_
  rintro e w8 ⟨rfl, hb⟩
  clear a0 a1 a2 a3 a4 a5 b0 b1 b2 b3 b4 b5
  have T8 := Lib.hid (T7.out.trans (hb.mono T7.out.size))
  have A_8 := Lib.hid (A_7.out.keep hb)
  have B_8 := Lib.hid (B_7.out.keep hb)
  clear T7 A_7 B_7
  clear hb
  obtain ⟨_, ⟨a0, a1, a2, a3, a4, a5⟩, _⟩ := A_8.out
  obtain ⟨_, ⟨b0, b1, b2, b3, b4, b5⟩, _⟩ := B_8.out
  go_wp2_with fail
  have hb : Gr w8 (w8.alloc (.cells #[.string a.id, .string a.pn, .string a.fr, .string a.to, .int .i64 a.pf, .int .i64 a.pu] 26)) := Gr.one _ _
  clear a0 a1 a2 a3 a4 a5 b0 b1 b2 b3 b4 b5
  have T9 := Lib.hid (T8.out.trans (hb.below.mono T8.out.size))
  have A_9 := Lib.hid (A_8.out.keep hb.below)
  have B_9 := Lib.hid (B_8.out.keep hb.below)
  clear T8 A_8 B_8
  have P_9 : Hid (Bx (w8.alloc (.cells #[.string a.id, .string a.pn, .string a.fr, .string a.to, .int .i64 a.pf, .int .i64 a.pu] 26)) w8.heap.size a) := Lib.hid (Bx.made w8 a 26)
  clear hb
  generalize (w8.alloc (.cells #[.string a.id, .string a.pn, .string a.fr, .string a.to, .int .i64 a.pf, .int .i64 a.pu] 26)) = w9 at *
  obtain ⟨_, ⟨a0, a1, a2, a3, a4, a5⟩, _⟩ := A_9.out
  obtain ⟨_, ⟨b0, b1, b2, b3, b4, b5⟩, _⟩ := B_9.out
  obtain ⟨_, ⟨p0, p1, p2, p3, p4, p5⟩, _⟩ := P_9.out
  go_wp2_with fail
  refine (HP2.out _ (HL.out.keep T9.out)).mono ?_
  rintro e w10 ⟨rfl, hb⟩
  clear a0 a1 a2 a3 a4 a5 b0 b1 b2 b3 b4 b5 p0 p1 p2 p3 p4 p5
  have T10 := Lib.hid (T9.out.trans (hb.mono T9.out.size))
  have A_10 := Lib.hid (A_9.out.keep hb)
  have B_10 := Lib.hid (B_9.out.keep hb)
  have P_10 := Lib.hid (P_9.out.keep hb)
  clear T9 A_9 B_9 P_9
  clear hb
  obtain ⟨_, ⟨a0, a1, a2, a3, a4, a5⟩, _⟩ := A_10.out
  obtain ⟨_, ⟨b0, b1, b2, b3, b4, b5⟩, _⟩ := B_10.out
  obtain ⟨_, ⟨p0, p1, p2, p3, p4, p5⟩, _⟩ := P_10.out
  go_wp2_with fail
  have hb : Gr w10 (w10.alloc (.cells #[.string ⟨#[]⟩, .string ⟨#[]⟩, .string ⟨#[]⟩, .string ⟨#[]⟩, .int .i64 0, .int .i64 0] 26)) := Gr.one _ _
  clear a0 a1 a2 a3 a4 a5 b0 b1 b2 b3 b4 b5 p0 p1 p2 p3 p4 p5
  have T11 := Lib.hid (T10.out.trans (hb.below.mono T10.out.size))
  have A_11 := Lib.hid (A_10.out.keep hb.below)
  have B_11 := Lib.hid (B_10.out.keep hb.below)
  have P_11 := Lib.hid (P_10.out.keep hb.below)
  clear T10 A_10 B_10 P_10
  have Q_11 : Hid (Bx (w10.alloc (.cells #[.string ⟨#[]⟩, .string ⟨#[]⟩, .string ⟨#[]⟩, .string ⟨#[]⟩, .int .i64 0, .int .i64 0] 26)) w10.heap.size ⟨⟨#[]⟩, ⟨#[]⟩, ⟨#[]⟩, ⟨#[]⟩, 0, 0⟩) := Lib.hid (Bx.made w10 ⟨⟨#[]⟩, ⟨#[]⟩, ⟨#[]⟩, ⟨#[]⟩, 0, 0⟩ 26)
  clear hb
  generalize (w10.alloc (.cells #[.string ⟨#[]⟩, .string ⟨#[]⟩, .string ⟨#[]⟩, .string ⟨#[]⟩, .int .i64 0, .int .i64 0] 26)) = w11 at *
  obtain ⟨_, ⟨a0, a1, a2, a3, a4, a5⟩, _⟩ := A_11.out
  obtain ⟨_, ⟨b0, b1, b2, b3, b4, b5⟩, _⟩ := B_11.out
  obtain ⟨_, ⟨p0, p1, p2, p3, p4, p5⟩, _⟩ := P_11.out
  obtain ⟨_, ⟨q0, q1, q2, q3, q4, q5⟩, _⟩ := Q_11.out
  go_wp2_with fail
  go_ret
  exact ⟨rfl, T11.out⟩
set_option maxRecDepth 100000 in
set_option maxHeartbeats 8000000 in
theorem texts_c0 (a : Ord) (s t1 : ByteArray) (w : World) (HL : Hid (LaidT w)) (hs : s.size ≤ 300) (HF : Hid (∀ W A c, RdO W A [a, a] → Calls Tryd.prog 10 #[.slice A 2 c] W fun e w' => e = .returned (.bool true) ∧ W = w')) (HT1 : Hid (∀ W, LaidT W → Calls Tryd.prog 14 #[.agg (encO a)] W fun e w' => e = .returned (.tuple #[.string t1, .int .i64 0]) ∧ Below W.heap.size W w')) (HP : Hid (∀ W A c, RdO W A [a] → Calls Tryd.prog 18 #[.slice A 1 c] W fun e w' => e = .returned (.bool true) ∧ Below W.heap.size W w')) (HP1 : Hid (∀ W, LaidT W → Calls Tryd.prog 16 #[.string t1] W fun e w' => e = .returned (.tuple #[.agg (encO a), .int .i64 0]) ∧ Below W.heap.size W w')) (HP2 : Hid (∀ W, LaidT W → Calls Tryd.prog 16 #[.string s] W fun e w' => e = .returned (.tuple #[.agg #[.string ⟨#[]⟩, .string ⟨#[]⟩, .string ⟨#[]⟩, .string ⟨#[]⟩, .int .i64 0, .int .i64 0], .int .i64 5]) ∧ Below W.heap.size W w')) : Calls Tryd.prog 8 #[.agg (encO a), .agg (encO a), .string s] w (Yes w) := by
  go_enter Tryd.func8, Tryd.ntmps8
  go_wp2_with fail
  have T0 := Lib.hid (Below.refl w.heap.size w)
  have hb : Gr w ((w.alloc (.cells (encO a) 26)).alloc (.cells (encO a) 26)) := (Gr.one _ _).alloc _
  have T1 := Lib.hid (T0.out.trans (hb.below.mono T0.out.size))
  clear T0
  have A_1 : Hid (Bx ((w.alloc (.cells (encO a) 26)).alloc (.cells (encO a) 26)) w.heap.size a) := Lib.hid ((Bx.made w a 26).keep (Gr.one _ _).below)
  have B_1 : Hid (Bx ((w.alloc (.cells (encO a) 26)).alloc (.cells (encO a) 26)) (w.heap.size + 1) a) := Lib.hid (by simpa using Bx.made (w.alloc (.cells (encO a) 26)) a 26)
  clear hb
  generalize ((w.alloc (.cells (encO a) 26)).alloc (.cells (encO a) 26)) = w1 at *
  refine (head_any _ (HL.out.keep T1.out)).mono ?_
  rintro e w2 ⟨rfl, hb⟩
  have T2 := Lib.hid (T1.out.trans (hb.mono T1.out.size))
  have A_2 := Lib.hid (A_1.out.keep hb)
  have B_2 := Lib.hid (B_1.out.keep hb)
  clear T1 A_1 B_1
  clear hb
  obtain ⟨_, ⟨a0, a1, a2, a3, a4, a5⟩, _⟩ := A_2.out
  obtain ⟨_, ⟨b0, b1, b2, b3, b4, b5⟩, _⟩ := B_2.out
  go_wp2_with fail
  have hb : Gr w2 (w2.alloc (.cells #[.string a.id, .string a.pn, .string a.fr, .string a.to, .int .i64 a.pf, .int .i64 a.pu, .string a.id, .string a.pn, .string a.fr, .string a.to, .int .i64 a.pf, .int .i64 a.pu] 26)) := Gr.one _ _
  clear a0 a1 a2 a3 a4 a5 b0 b1 b2 b3 b4 b5
  have T3 := Lib.hid (T2.out.trans (hb.below.mono T2.out.size))
  have A_3 := Lib.hid (A_2.out.keep hb.below)
  have B_3 := Lib.hid (B_2.out.keep hb.below)
  clear T2 A_2 B_2
  have R_3 := Lib.hid (RdO.two w2 a a)
  clear hb
  generalize (w2.alloc (.cells #[.string a.id, .string a.pn, .string a.fr, .string a.to, .int .i64 a.pf, .int .i64 a.pu, .string a.id, .string a.pn, .string a.fr, .string a.to, .int .i64 a.pf, .int .i64 a.pu] 26)) = w3 at *
  refine (HF.out _ _ _ R_3.out).mono ?_
  rintro e _ ⟨rfl, rfl⟩
  clear R_3
  obtain ⟨_, ⟨a0, a1, a2, a3, a4, a5⟩, _⟩ := A_3.out
  obtain ⟨_, ⟨b0, b1, b2, b3, b4, b5⟩, _⟩ := B_3.out
  go_wp2_with fail
  refine (HT1.out _ (HL.out.keep T3.out)).mono ?_
  rintro e w4 ⟨rfl, hb⟩
  clear a0 a1 a2 a3 a4 a5 b0 b1 b2 b3 b4 b5
  have T4 := Lib.hid (T3.out.trans (hb.mono T3.out.size))
  have A_4 := Lib.hid (A_3.out.keep hb)
  have B_4 := Lib.hid (B_3.out.keep hb)
  clear T3 A_3 B_3
  clear hb
  obtain ⟨_, ⟨a0, a1, a2, a3, a4, a5⟩, _⟩ := A_4.out
  obtain ⟨_, ⟨b0, b1, b2, b3, b4, b5⟩, _⟩ := B_4.out
  go_wp2_with fail
  refine (HT1.out _ (HL.out.keep T4.out)).mono ?_
  rintro e w5 ⟨rfl, hb⟩
  clear a0 a1 a2 a3 a4 a5 b0 b1 b2 b3 b4 b5
  have T5 := Lib.hid (T4.out.trans (hb.mono T4.out.size))
  have A_5 := Lib.hid (A_4.out.keep hb)
  have B_5 := Lib.hid (B_4.out.keep hb)
  clear T4 A_4 B_4
  clear hb
  obtain ⟨_, ⟨a0, a1, a2, a3, a4, a5⟩, _⟩ := A_5.out
  obtain ⟨_, ⟨b0, b1, b2, b3, b4, b5⟩, _⟩ := B_5.out
  go_wp2_with fail
  have hb : Gr w5 (w5.alloc (.cells #[.string a.id, .string a.pn, .string a.fr, .string a.to, .int .i64 a.pf, .int .i64 a.pu] 26)) := Gr.one _ _
  clear a0 a1 a2 a3 a4 a5 b0 b1 b2 b3 b4 b5
  have T6 := Lib.hid (T5.out.trans (hb.below.mono T5.out.size))
  have A_6 := Lib.hid (A_5.out.keep hb.below)
  have B_6 := Lib.hid (B_5.out.keep hb.below)
  clear T5 A_5 B_5
  have R_6 := Lib.hid (RdO.one w5 a)
  clear hb
  generalize (w5.alloc (.cells #[.string a.id, .string a.pn, .string a.fr, .string a.to, .int .i64 a.pf, .int .i64 a.pu] 26)) = w6 at *
  refine (HP.out _ _ _ R_6.out).mono ?_
  rintro e w7 ⟨rfl, hb⟩
  have T7 := Lib.hid (T6.out.trans (hb.mono T6.out.size))
  have A_7 := Lib.hid (A_6.out.keep hb)
  have B_7 := Lib.hid (B_6.out.keep hb)
  have R_7 := Lib.hid (R_6.out.keep hb)
  clear T6 A_6 B_6 R_6
  clear hb
  clear R_7
  obtain ⟨_, ⟨a0, a1, a2, a3, a4, a5⟩, _⟩ := A_7.out
  obtain ⟨_, ⟨b0, b1, b2, b3, b4, b5⟩, _⟩ := B_7.out
  go_wp2_with fail
  refine (HP1.out _ (HL.out.keep T7.out)).mono ?_
  rintro e w8 ⟨rfl, hb⟩
  clear a0 a1 a2 a3 a4 a5 b0 b1 b2 b3 b4 b5
  have T8 := Lib.hid (T7.out.trans (hb.mono T7.out.size))
  have A_8 := Lib.hid (A_7.out.keep hb)
  have B_8 := Lib.hid (B_7.out.keep hb)
  clear T7 A_7 B_7
  clear hb
  obtain ⟨_, ⟨a0, a1, a2, a3, a4, a5⟩, _⟩ := A_8.out
  obtain ⟨_, ⟨b0, b1, b2, b3, b4, b5⟩, _⟩ := B_8.out
  go_wp2_with fail
  have hb : Gr w8 (w8.alloc (.cells #[.string a.id, .string a.pn, .string a.fr, .string a.to, .int .i64 a.pf, .int .i64 a.pu] 26)) := Gr.one _ _
  clear a0 a1 a2 a3 a4 a5 b0 b1 b2 b3 b4 b5
  have T9 := Lib.hid (T8.out.trans (hb.below.mono T8.out.size))
  have A_9 := Lib.hid (A_8.out.keep hb.below)
  have B_9 := Lib.hid (B_8.out.keep hb.below)
  clear T8 A_8 B_8
  have P_9 : Hid (Bx (w8.alloc (.cells #[.string a.id, .string a.pn, .string a.fr, .string a.to, .int .i64 a.pf, .int .i64 a.pu] 26)) w8.heap.size a) := Lib.hid (Bx.made w8 a 26)
  clear hb
  generalize (w8.alloc (.cells #[.string a.id, .string a.pn, .string a.fr, .string a.to, .int .i64 a.pf, .int .i64 a.pu] 26)) = w9 at *
  obtain ⟨_, ⟨a0, a1, a2, a3, a4, a5⟩, _⟩ := A_9.out
  obtain ⟨_, ⟨b0, b1, b2, b3, b4, b5⟩, _⟩ := B_9.out
  obtain ⟨_, ⟨p0, p1, p2, p3, p4, p5⟩, _⟩ := P_9.out
  go_wp2_with fail
  refine (HP2.out _ (HL.out.keep T9.out)).mono ?_
  rintro e w10 ⟨rfl, hb⟩
  clear a0 a1 a2 a3 a4 a5 b0 b1 b2 b3 b4 b5 p0 p1 p2 p3 p4 p5
  have T10 := Lib.hid (T9.out.trans (hb.mono T9.out.size))
  have A_10 := Lib.hid (A_9.out.keep hb)
  have B_10 := Lib.hid (B_9.out.keep hb)
  have P_10 := Lib.hid (P_9.out.keep hb)
  clear T9 A_9 B_9 P_9
  clear hb
  obtain ⟨_, ⟨a0, a1, a2, a3, a4, a5⟩, _⟩ := A_10.out
  obtain ⟨_, ⟨b0, b1, b2, b3, b4, b5⟩, _⟩ := B_10.out
  obtain ⟨_, ⟨p0, p1, p2, p3, p4, p5⟩, _⟩ := P_10.out
  go_wp2_with fail
  have hb : Gr w10 (w10.alloc (.cells #[.string ⟨#[]⟩, .string ⟨#[]⟩, .string ⟨#[]⟩, .string ⟨#[]⟩, .int .i64 0, .int .i64 0] 26)) := Gr.one _ _
  clear a0 a1 a2 a3 a4 a5 b0 b1 b2 b3 b4 b5 p0 p1 p2 p3 p4 p5
  have T11 := Lib.hid (T10.out.trans (hb.below.mono T10.out.size))
  have A_11 := Lib.hid (A_10.out.keep hb.below)
  have B_11 := Lib.hid (B_10.out.keep hb.below)
  have P_11 := Lib.hid (P_10.out.keep hb.below)
  clear T10 A_10 B_10 P_10
  have Q_11 : Hid (Bx (w10.alloc (.cells #[.string ⟨#[]⟩, .string ⟨#[]⟩, .string ⟨#[]⟩, .string ⟨#[]⟩, .int .i64 0, .int .i64 0] 26)) w10.heap.size ⟨⟨#[]⟩, ⟨#[]⟩, ⟨#[]⟩, ⟨#[]⟩, 0, 0⟩) := Lib.hid (Bx.made w10 ⟨⟨#[]⟩, ⟨#[]⟩, ⟨#[]⟩, ⟨#[]⟩, 0, 0⟩ 26)
  clear hb
  generalize (w10.alloc (.cells #[.string ⟨#[]⟩, .string ⟨#[]⟩, .string ⟨#[]⟩, .string ⟨#[]⟩, .int .i64 0, .int .i64 0] 26)) = w11 at *
  obtain ⟨_, ⟨a0, a1, a2, a3, a4, a5⟩, _⟩ := A_11.out
  obtain ⟨_, ⟨b0, b1, b2, b3, b4, b5⟩, _⟩ := B_11.out
  obtain ⟨_, ⟨p0, p1, p2, p3, p4, p5⟩, _⟩ := P_11.out
  obtain ⟨_, ⟨q0, q1, q2, q3, q4, q5⟩, _⟩ := Q_11.out
  go_wp2_with fail
  go_ret
  exact ⟨rfl, T11.out⟩
set_option maxRecDepth 100000 in
set_option maxHeartbeats 8000000 in
theorem texts_d0 (a b : Ord) (s t1 t2 : ByteArray) (w : World) (HL : Hid (LaidT w)) (hs : s.size ≤ 300) (HF : Hid (∀ W A c, RdO W A [a, b] → Calls Tryd.prog 10 #[.slice A 2 c] W fun e w' => e = .returned (.bool true) ∧ W = w')) (hne : HNE a b) (ht : (t1.toList == t2.toList) = false) (HT1 : Hid (∀ W, LaidT W → Calls Tryd.prog 14 #[.agg (encO a)] W fun e w' => e = .returned (.tuple #[.string t1, .int .i64 0]) ∧ Below W.heap.size W w')) (HT2 : Hid (∀ W, LaidT W → Calls Tryd.prog 14 #[.agg (encO b)] W fun e w' => e = .returned (.tuple #[.string t2, .int .i64 0]) ∧ Below W.heap.size W w')) (HP : Hid (∀ W A c, RdO W A [a] → Calls Tryd.prog 18 #[.slice A 1 c] W fun e w' => e = .returned (.bool true) ∧ Below W.heap.size W w')) (HP1 : Hid (∀ W, LaidT W → Calls Tryd.prog 16 #[.string t1] W fun e w' => e = .returned (.tuple #[.agg (encO a), .int .i64 0]) ∧ Below W.heap.size W w')) (HP2 : Hid (∀ W, LaidT W → Calls Tryd.prog 16 #[.string s] W fun e w' => e = .returned (.tuple #[.agg #[.string ⟨#[]⟩, .string ⟨#[]⟩, .string ⟨#[]⟩, .string ⟨#[]⟩, .int .i64 0, .int .i64 0], .int .i64 5]) ∧ Below W.heap.size W w')) : Calls Tryd.prog 8 #[.agg (encO a), .agg (encO b), .string s] w (Yes w) := by
  go_enter Tryd.func8, Tryd.ntmps8
  go_wp2_with fail
  have T0 := Lib.hid (Below.refl w.heap.size w)
  have hb : Gr w ((w.alloc (.cells (encO a) 26)).alloc (.cells (encO b) 26)) := (Gr.one _ _).alloc _
  have T1 := Lib.hid (T0.out.trans (hb.below.mono T0.out.size))
  clear T0
  have A_1 : Hid (Bx ((w.alloc (.cells (encO a) 26)).alloc (.cells (encO b) 26)) w.heap.size a) := Lib.hid ((Bx.made w a 26).keep (Gr.one _ _).below)
  have B_1 : Hid (Bx ((w.alloc (.cells (encO a) 26)).alloc (.cells (encO b) 26)) (w.heap.size + 1) b) := Lib.hid (by simpa using Bx.made (w.alloc (.cells (encO a) 26)) b 26)
  clear hb
  generalize ((w.alloc (.cells (encO a) 26)).alloc (.cells (encO b) 26)) = w1 at *
  refine (head_any _ (HL.out.keep T1.out)).mono ?_
  rintro e w2 ⟨rfl, hb⟩
  have T2 := Lib.hid (T1.out.trans (hb.mono T1.out.size))
  have A_2 := Lib.hid (A_1.out.keep hb)
  have B_2 := Lib.hid (B_1.out.keep hb)
  clear T1 A_1 B_1
  clear hb
  obtain ⟨_, ⟨a0, a1, a2, a3, a4, a5⟩, _⟩ := A_2.out
  obtain ⟨_, ⟨b0, b1, b2, b3, b4, b5⟩, _⟩ := B_2.out
  go_wp2_with fail
  have hb : Gr w2 (w2.alloc (.cells #[.string a.id, .string a.pn, .string a.fr, .string a.to, .int .i64 a.pf, .int .i64 a.pu, .string b.id, .string b.pn, .string b.fr, .string b.to, .int .i64 b.pf, .int .i64 b.pu] 26)) := Gr.one _ _
  clear a0 a1 a2 a3 a4 a5 b0 b1 b2 b3 b4 b5
  have T3 := Lib.hid (T2.out.trans (hb.below.mono T2.out.size))
  have A_3 := Lib.hid (A_2.out.keep hb.below)
  have B_3 := Lib.hid (B_2.out.keep hb.below)
  clear T2 A_2 B_2
  have R_3 := Lib.hid (RdO.two w2 a b)
  clear hb
  generalize (w2.alloc (.cells #[.string a.id, .string a.pn, .string a.fr, .string a.to, .int .i64 a.pf, .int .i64 a.pu, .string b.id, .string b.pn, .string b.fr, .string b.to, .int .i64 b.pf, .int .i64 b.pu] 26)) = w3 at *
  refine (HF.out _ _ _ R_3.out).mono ?_
  rintro e _ ⟨rfl, rfl⟩
  clear R_3
  obtain ⟨_, ⟨a0, a1, a2, a3, a4, a5⟩, _⟩ := A_3.out
  obtain ⟨_, ⟨b0, b1, b2, b3, b4, b5⟩, _⟩ := B_3.out
  go_wp2_with fail
  refine (HT1.out _ (HL.out.keep T3.out)).mono ?_
  rintro e w4 ⟨rfl, hb⟩
  clear a0 a1 a2 a3 a4 a5 b0 b1 b2 b3 b4 b5
  have T4 := Lib.hid (T3.out.trans (hb.mono T3.out.size))
  have A_4 := Lib.hid (A_3.out.keep hb)
  have B_4 := Lib.hid (B_3.out.keep hb)
  clear T3 A_3 B_3
  clear hb
  obtain ⟨_, ⟨a0, a1, a2, a3, a4, a5⟩, _⟩ := A_4.out
  obtain ⟨_, ⟨b0, b1, b2, b3, b4, b5⟩, _⟩ := B_4.out
  go_wp2_with fail
  refine (HT2.out _ (HL.out.keep T4.out)).mono ?_
  rintro e w5 ⟨rfl, hb⟩
  clear a0 a1 a2 a3 a4 a5 b0 b1 b2 b3 b4 b5
  have T5 := Lib.hid (T4.out.trans (hb.mono T4.out.size))
  have A_5 := Lib.hid (A_4.out.keep hb)
  have B_5 := Lib.hid (B_4.out.keep hb)
  clear T4 A_4 B_4
  clear hb
  obtain ⟨_, ⟨a0, a1, a2, a3, a4, a5⟩, _⟩ := A_5.out
  obtain ⟨_, ⟨b0, b1, b2, b3, b4, b5⟩, _⟩ := B_5.out
  go_wp2_with fail
  have hb : Gr w5 (w5.alloc (.cells #[.string a.id, .string a.pn, .string a.fr, .string a.to, .int .i64 a.pf, .int .i64 a.pu] 26)) := Gr.one _ _
  clear a0 a1 a2 a3 a4 a5 b0 b1 b2 b3 b4 b5
  have T6 := Lib.hid (T5.out.trans (hb.below.mono T5.out.size))
  have A_6 := Lib.hid (A_5.out.keep hb.below)
  have B_6 := Lib.hid (B_5.out.keep hb.below)
  clear T5 A_5 B_5
  have R_6 := Lib.hid (RdO.one w5 a)
  clear hb
  generalize (w5.alloc (.cells #[.string a.id, .string a.pn, .string a.fr, .string a.to, .int .i64 a.pf, .int .i64 a.pu] 26)) = w6 at *
  refine (HP.out _ _ _ R_6.out).mono ?_
  rintro e w7 ⟨rfl, hb⟩
  have T7 := Lib.hid (T6.out.trans (hb.mono T6.out.size))
  have A_7 := Lib.hid (A_6.out.keep hb)
  have B_7 := Lib.hid (B_6.out.keep hb)
  have R_7 := Lib.hid (R_6.out.keep hb)
  clear T6 A_6 B_6 R_6
  clear hb
  clear R_7
  obtain ⟨_, ⟨a0, a1, a2, a3, a4, a5⟩, _⟩ := A_7.out
  obtain ⟨_, ⟨b0, b1, b2, b3, b4, b5⟩, _⟩ := B_7.out
  go_wp2_with fail
  refine (HP1.out _ (HL.out.keep T7.out)).mono ?_
  rintro e w8 ⟨rfl, hb⟩
  clear a0 a1 a2 a3 a4 a5 b0 b1 b2 b3 b4 b5
  have T8 := Lib.hid (T7.out.trans (hb.mono T7.out.size))
  have A_8 := Lib.hid (A_7.out.keep hb)
  have B_8 := Lib.hid (B_7.out.keep hb)
  clear T7 A_7 B_7
  clear hb
  obtain ⟨_, ⟨a0, a1, a2, a3, a4, a5⟩, _⟩ := A_8.out
  obtain ⟨_, ⟨b0, b1, b2, b3, b4, b5⟩, _⟩ := B_8.out
  go_wp2_with fail
  all_goals first
    | (exfalso; exact hne_no hne (by assumption) (by assumption) (by assumption) (by assumption) (by assumption) (by assumption))
    | skip
  all_goals try rw [← (show a.pf = b.pf by assumption)]
  all_goals
    have hb : Gr w8 (w8.alloc (.cells #[.string a.id, .string a.pn, .string a.fr, .string a.to, .int .i64 a.pf, .int .i64 a.pu] 26)) := Gr.one _ _
    clear a0 a1 a2 a3 a4 a5 b0 b1 b2 b3 b4 b5
    have T9 := Lib.hid (T8.out.trans (hb.below.mono T8.out.size))
    have A_9 := Lib.hid (A_8.out.keep hb.below)
    have B_9 := Lib.hid (B_8.out.keep hb.below)
    clear T8 A_8 B_8
    have P_9 : Hid (Bx (w8.alloc (.cells #[.string a.id, .string a.pn, .string a.fr, .string a.to, .int .i64 a.pf, .int .i64 a.pu] 26)) w8.heap.size a) := Lib.hid (Bx.made w8 a 26)
    clear hb
    generalize (w8.alloc (.cells #[.string a.id, .string a.pn, .string a.fr, .string a.to, .int .i64 a.pf, .int .i64 a.pu] 26)) = w9 at *
    obtain ⟨_, ⟨a0, a1, a2, a3, a4, a5⟩, _⟩ := A_9.out
    obtain ⟨_, ⟨b0, b1, b2, b3, b4, b5⟩, _⟩ := B_9.out
    obtain ⟨_, ⟨p0, p1, p2, p3, p4, p5⟩, _⟩ := P_9.out
    go_wp2_with fail
    refine (HP2.out _ (HL.out.keep T9.out)).mono ?_
    rintro e w10 ⟨rfl, hb⟩
    clear a0 a1 a2 a3 a4 a5 b0 b1 b2 b3 b4 b5 p0 p1 p2 p3 p4 p5
    have T10 := Lib.hid (T9.out.trans (hb.mono T9.out.size))
    have A_10 := Lib.hid (A_9.out.keep hb)
    have B_10 := Lib.hid (B_9.out.keep hb)
    have P_10 := Lib.hid (P_9.out.keep hb)
    clear T9 A_9 B_9 P_9
    clear hb
    obtain ⟨_, ⟨a0, a1, a2, a3, a4, a5⟩, _⟩ := A_10.out
    obtain ⟨_, ⟨b0, b1, b2, b3, b4, b5⟩, _⟩ := B_10.out
    obtain ⟨_, ⟨p0, p1, p2, p3, p4, p5⟩, _⟩ := P_10.out
    go_wp2_with fail
    have hb : Gr w10 (w10.alloc (.cells #[.string ⟨#[]⟩, .string ⟨#[]⟩, .string ⟨#[]⟩, .string ⟨#[]⟩, .int .i64 0, .int .i64 0] 26)) := Gr.one _ _
    clear a0 a1 a2 a3 a4 a5 b0 b1 b2 b3 b4 b5 p0 p1 p2 p3 p4 p5
    have T11 := Lib.hid (T10.out.trans (hb.below.mono T10.out.size))
    have A_11 := Lib.hid (A_10.out.keep hb.below)
    have B_11 := Lib.hid (B_10.out.keep hb.below)
    have P_11 := Lib.hid (P_10.out.keep hb.below)
    clear T10 A_10 B_10 P_10
    have Q_11 : Hid (Bx (w10.alloc (.cells #[.string ⟨#[]⟩, .string ⟨#[]⟩, .string ⟨#[]⟩, .string ⟨#[]⟩, .int .i64 0, .int .i64 0] 26)) w10.heap.size ⟨⟨#[]⟩, ⟨#[]⟩, ⟨#[]⟩, ⟨#[]⟩, 0, 0⟩) := Lib.hid (Bx.made w10 ⟨⟨#[]⟩, ⟨#[]⟩, ⟨#[]⟩, ⟨#[]⟩, 0, 0⟩ 26)
    clear hb
    generalize (w10.alloc (.cells #[.string ⟨#[]⟩, .string ⟨#[]⟩, .string ⟨#[]⟩, .string ⟨#[]⟩, .int .i64 0, .int .i64 0] 26)) = w11 at *
    obtain ⟨_, ⟨a0, a1, a2, a3, a4, a5⟩, _⟩ := A_11.out
    obtain ⟨_, ⟨b0, b1, b2, b3, b4, b5⟩, _⟩ := B_11.out
    obtain ⟨_, ⟨p0, p1, p2, p3, p4, p5⟩, _⟩ := P_11.out
    obtain ⟨_, ⟨q0, q1, q2, q3, q4, q5⟩, _⟩ := Q_11.out
    go_wp2_with fail
    go_ret
    exact ⟨rfl, T11.out⟩
set_option maxRecDepth 100000 in
set_option maxHeartbeats 8000000 in
theorem texts_a1 (a b p : Ord) (s t2 : ByteArray) (e2 : Int) (w : World) (HL : Hid (LaidT w)) (hs : s.size ≤ 300) (HF : Hid (∀ W A c, RdO W A [a, b] → Calls Tryd.prog 10 #[.slice A 2 c] W fun e w' => e = .returned (.bool true) ∧ W = w')) (HT1 : Hid (∀ W, LaidT W → Calls Tryd.prog 14 #[.agg (encO a)] W fun e w' => e = .returned (.tuple #[.string ⟨#[]⟩, .int .i64 1]) ∧ Below W.heap.size W w')) (HT2 : Hid (∀ W, LaidT W → Calls Tryd.prog 14 #[.agg (encO b)] W fun e w' => e = .returned (.tuple #[.string t2, .int .i64 e2]) ∧ Below W.heap.size W w')) (HP : Hid (∀ W A c, RdO W A [a] → Calls Tryd.prog 18 #[.slice A 1 c] W fun e w' => e = .returned (.bool false) ∧ Below W.heap.size W w')) (HP2 : Hid (∀ W, LaidT W → Calls Tryd.prog 16 #[.string s] W fun e w' => e = .returned (.tuple #[.agg (encO p), .int .i64 0]) ∧ Below W.heap.size W w')) (HT3 : Hid (∀ W, LaidT W → Calls Tryd.prog 14 #[.agg (encO p)] W fun e w' => e = .returned (.tuple #[.string s, .int .i64 0]) ∧ Below W.heap.size W w')) : Calls Tryd.prog 8 #[.agg (encO a), .agg (encO b), .string s] w (Yes w) := by
  go_enter Tryd.func8, Tryd.ntmps8
  go_wp2_with fail
  have T0 := Lib.hid (Below.refl w.heap.size w)
  have hb : Gr w ((w.alloc (.cells (encO a) 26)).alloc (.cells (encO b) 26)) := (Gr.one _ _).alloc _
  have T1 := Lib.hid (T0.out.trans (hb.below.mono T0.out.size))
  clear T0
  have A_1 : Hid (Bx ((w.alloc (.cells (encO a) 26)).alloc (.cells (encO b) 26)) w.heap.size a) := Lib.hid ((Bx.made w a 26).keep (Gr.one _ _).below)
  have B_1 : Hid (Bx ((w.alloc (.cells (encO a) 26)).alloc (.cells (encO b) 26)) (w.heap.size + 1) b) := Lib.hid (by simpa using Bx.made (w.alloc (.cells (encO a) 26)) b 26)
  clear hb
  generalize ((w.alloc (.cells (encO a) 26)).alloc (.cells (encO b) 26)) = w1 at *
  refine (head_any _ (HL.out.keep T1.out)).mono ?_
  rintro e w2 ⟨rfl, hb⟩
  have T2 := Lib.hid (T1.out.trans (hb.mono T1.out.size))
  have A_2 := Lib.hid (A_1.out.keep hb)
  have B_2 := Lib.hid (B_1.out.keep hb)
  clear T1 A_1 B_1
  clear hb
  obtain ⟨_, ⟨a0, a1, a2, a3, a4, a5⟩, _⟩ := A_2.out
  obtain ⟨_, ⟨b0, b1, b2, b3, b4, b5⟩, _⟩ := B_2.out
  go_wp2_with fail
  have hb : Gr w2 (w2.alloc (.cells #[.string a.id, .string a.pn, .string a.fr, .string a.to, .int .i64 a.pf, .int .i64 a.pu, .string b.id, .string b.pn, .string b.fr, .string b.to, .int .i64 b.pf, .int .i64 b.pu] 26)) := Gr.one _ _
  clear a0 a1 a2 a3 a4 a5 b0 b1 b2 b3 b4 b5
  have T3 := Lib.hid (T2.out.trans (hb.below.mono T2.out.size))
  have A_3 := Lib.hid (A_2.out.keep hb.below)
  have B_3 := Lib.hid (B_2.out.keep hb.below)
  clear T2 A_2 B_2
  have R_3 := Lib.hid (RdO.two w2 a b)
  clear hb
  generalize (w2.alloc (.cells #[.string a.id, .string a.pn, .string a.fr, .string a.to, .int .i64 a.pf, .int .i64 a.pu, .string b.id, .string b.pn, .string b.fr, .string b.to, .int .i64 b.pf, .int .i64 b.pu] 26)) = w3 at *
  refine (HF.out _ _ _ R_3.out).mono ?_
  rintro e _ ⟨rfl, rfl⟩
  clear R_3
  obtain ⟨_, ⟨a0, a1, a2, a3, a4, a5⟩, _⟩ := A_3.out
  obtain ⟨_, ⟨b0, b1, b2, b3, b4, b5⟩, _⟩ := B_3.out
  go_wp2_with fail
  refine (HT1.out _ (HL.out.keep T3.out)).mono ?_
  rintro e w4 ⟨rfl, hb⟩
  clear a0 a1 a2 a3 a4 a5 b0 b1 b2 b3 b4 b5
  have T4 := Lib.hid (T3.out.trans (hb.mono T3.out.size))
  have A_4 := Lib.hid (A_3.out.keep hb)
  have B_4 := Lib.hid (B_3.out.keep hb)
  clear T3 A_3 B_3
  clear hb
  obtain ⟨_, ⟨a0, a1, a2, a3, a4, a5⟩, _⟩ := A_4.out
  obtain ⟨_, ⟨b0, b1, b2, b3, b4, b5⟩, _⟩ := B_4.out
  go_wp2_with fail
  refine (HT2.out _ (HL.out.keep T4.out)).mono ?_
  rintro e w5 ⟨rfl, hb⟩
  clear a0 a1 a2 a3 a4 a5 b0 b1 b2 b3 b4 b5
  have T5 := Lib.hid (T4.out.trans (hb.mono T4.out.size))
  have A_5 := Lib.hid (A_4.out.keep hb)
  have B_5 := Lib.hid (B_4.out.keep hb)
  clear T4 A_4 B_4
  clear hb
  obtain ⟨_, ⟨a0, a1, a2, a3, a4, a5⟩, _⟩ := A_5.out
  obtain ⟨_, ⟨b0, b1, b2, b3, b4, b5⟩, _⟩ := B_5.out
  go_wp2_with fail
  have hb : Gr w5 (w5.alloc (.cells #[.string a.id, .string a.pn, .string a.fr, .string a.to, .int .i64 a.pf, .int .i64 a.pu] 26)) := Gr.one _ _
  clear a0 a1 a2 a3 a4 a5 b0 b1 b2 b3 b4 b5
  have T6 := Lib.hid (T5.out.trans (hb.below.mono T5.out.size))
  have A_6 := Lib.hid (A_5.out.keep hb.below)
  have B_6 := Lib.hid (B_5.out.keep hb.below)
  clear T5 A_5 B_5
  have R_6 := Lib.hid (RdO.one w5 a)
  clear hb
  generalize (w5.alloc (.cells #[.string a.id, .string a.pn, .string a.fr, .string a.to, .int .i64 a.pf, .int .i64 a.pu] 26)) = w6 at *
  refine (HP.out _ _ _ R_6.out).mono ?_
  rintro e w7 ⟨rfl, hb⟩
  have T7 := Lib.hid (T6.out.trans (hb.mono T6.out.size))
  have A_7 := Lib.hid (A_6.out.keep hb)
  have B_7 := Lib.hid (B_6.out.keep hb)
  have R_7 := Lib.hid (R_6.out.keep hb)
  clear T6 A_6 B_6 R_6
  clear hb
  clear R_7
  obtain ⟨_, ⟨a0, a1, a2, a3, a4, a5⟩, _⟩ := A_7.out
  obtain ⟨_, ⟨b0, b1, b2, b3, b4, b5⟩, _⟩ := B_7.out
  go_wp2_with fail
  refine (HP2.out _ (HL.out.keep T7.out)).mono ?_
  rintro e w8 ⟨rfl, hb⟩
  clear a0 a1 a2 a3 a4 a5 b0 b1 b2 b3 b4 b5
  have T8 := Lib.hid (T7.out.trans (hb.mono T7.out.size))
  have A_8 := Lib.hid (A_7.out.keep hb)
  have B_8 := Lib.hid (B_7.out.keep hb)
  clear T7 A_7 B_7
  clear hb
  obtain ⟨_, ⟨a0, a1, a2, a3, a4, a5⟩, _⟩ := A_8.out
  obtain ⟨_, ⟨b0, b1, b2, b3, b4, b5⟩, _⟩ := B_8.out
  go_wp2_with fail
  have hb : Gr w8 (w8.alloc (.cells #[.string p.id, .string p.pn, .string p.fr, .string p.to, .int .i64 p.pf, .int .i64 p.pu] 26)) := Gr.one _ _
  clear a0 a1 a2 a3 a4 a5 b0 b1 b2 b3 b4 b5
  have T9 := Lib.hid (T8.out.trans (hb.below.mono T8.out.size))
  have A_9 := Lib.hid (A_8.out.keep hb.below)
  have B_9 := Lib.hid (B_8.out.keep hb.below)
  clear T8 A_8 B_8
  have Q_9 : Hid (Bx (w8.alloc (.cells #[.string p.id, .string p.pn, .string p.fr, .string p.to, .int .i64 p.pf, .int .i64 p.pu] 26)) w8.heap.size p) := Lib.hid (Bx.made w8 p 26)
  clear hb
  generalize (w8.alloc (.cells #[.string p.id, .string p.pn, .string p.fr, .string p.to, .int .i64 p.pf, .int .i64 p.pu] 26)) = w9 at *
  obtain ⟨_, ⟨a0, a1, a2, a3, a4, a5⟩, _⟩ := A_9.out
  obtain ⟨_, ⟨b0, b1, b2, b3, b4, b5⟩, _⟩ := B_9.out
  obtain ⟨_, ⟨q0, q1, q2, q3, q4, q5⟩, _⟩ := Q_9.out
  go_wp2_with fail
  refine (HT3.out _ (HL.out.keep T9.out)).mono ?_
  rintro e w10 ⟨rfl, hb⟩
  clear a0 a1 a2 a3 a4 a5 b0 b1 b2 b3 b4 b5 q0 q1 q2 q3 q4 q5
  have T10 := Lib.hid (T9.out.trans (hb.mono T9.out.size))
  have A_10 := Lib.hid (A_9.out.keep hb)
  have B_10 := Lib.hid (B_9.out.keep hb)
  have Q_10 := Lib.hid (Q_9.out.keep hb)
  clear T9 A_9 B_9 Q_9
  clear hb
  obtain ⟨_, ⟨a0, a1, a2, a3, a4, a5⟩, _⟩ := A_10.out
  obtain ⟨_, ⟨b0, b1, b2, b3, b4, b5⟩, _⟩ := B_10.out
  obtain ⟨_, ⟨q0, q1, q2, q3, q4, q5⟩, _⟩ := Q_10.out
  go_wp2_with fail
  go_ret
  exact ⟨rfl, T10.out⟩
set_option maxRecDepth 100000 in
set_option maxHeartbeats 8000000 in
theorem texts_b1 (a b p : Ord) (s t1 : ByteArray) (w : World) (HL : Hid (LaidT w)) (hs : s.size ≤ 300) (HF : Hid (∀ W A c, RdO W A [a, b] → Calls Tryd.prog 10 #[.slice A 2 c] W fun e w' => e = .returned (.bool true) ∧ W = w')) (HT1 : Hid (∀ W, LaidT W → Calls Tryd.prog 14 #[.agg (encO a)] W fun e w' => e = .returned (.tuple #[.string t1, .int .i64 0]) ∧ Below W.heap.size W w')) (HT2 : Hid (∀ W, LaidT W → Calls Tryd.prog 14 #[.agg (encO b)] W fun e w' => e = .returned (.tuple #[.string ⟨#[]⟩, .int .i64 1]) ∧ Below W.heap.size W w')) (HP : Hid (∀ W A c, RdO W A [a] → Calls Tryd.prog 18 #[.slice A 1 c] W fun e w' => e = .returned (.bool true) ∧ Below W.heap.size W w')) (HP1 : Hid (∀ W, LaidT W → Calls Tryd.prog 16 #[.string t1] W fun e w' => e = .returned (.tuple #[.agg (encO a), .int .i64 0]) ∧ Below W.heap.size W w')) (HP2 : Hid (∀ W, LaidT W → Calls Tryd.prog 16 #[.string s] W fun e w' => e = .returned (.tuple #[.agg (encO p), .int .i64 0]) ∧ Below W.heap.size W w')) (HT3 : Hid (∀ W, LaidT W → Calls Tryd.prog 14 #[.agg (encO p)] W fun e w' => e = .returned (.tuple #[.string s, .int .i64 0]) ∧ Below W.heap.size W w')) : Calls Tryd.prog 8 #[.agg (encO a), .agg (encO b), .string s] w (Yes w) := by
  go_enter Tryd.func8, Tryd.ntmps8
  go_wp2_with fail
  have T0 := Lib.hid (Below.refl w.heap.size w)
  have hb : Gr w ((w.alloc (.cells (encO a) 26)).alloc (.cells (encO b) 26)) := (Gr.one _ _).alloc _
  have T1 := Lib.hid (T0.out.trans (hb.below.mono T0.out.size))
  clear T0
  have A_1 : Hid (Bx ((w.alloc (.cells (encO a) 26)).alloc (.cells (encO b) 26)) w.heap.size a) := Lib.hid ((Bx.made w a 26).keep (Gr.one _ _).below)
  have B_1 : Hid (Bx ((w.alloc (.cells (encO a) 26)).alloc (.cells (encO b) 26)) (w.heap.size + 1) b) := Lib.hid (by simpa using Bx.made (w.alloc (.cells (encO a) 26)) b 26)
  clear hb
  generalize ((w.alloc (.cells (encO a) 26)).alloc (.cells (encO b) 26)) = w1 at *
  refine (head_any _ (HL.out.keep T1.out)).mono ?_
  rintro e w2 ⟨rfl, hb⟩
  have T2 := Lib.hid (T1.out.trans (hb.mono T1.out.size))
  have A_2 := Lib.hid (A_1.out.keep hb)
  have B_2 := Lib.hid (B_1.out.keep hb)
  clear T1 A_1 B_1
  clear hb
  obtain ⟨_, ⟨a0, a1, a2, a3, a4, a5⟩, _⟩ := A_2.out
  obtain ⟨_, ⟨b0, b1, b2, b3, b4, b5⟩, _⟩ := B_2.out
  go_wp2_with fail
  have hb : Gr w2 (w2.alloc (.cells #[.string a.id, .string a.pn, .string a.fr, .string a.to, .int .i64 a.pf, .int .i64 a.pu, .string b.id, .string b.pn, .string b.fr, .string b.to, .int .i64 b.pf, .int .i64 b.pu] 26)) := Gr.one _ _
  clear a0 a1 a2 a3 a4 a5 b0 b1 b2 b3 b4 b5
  have T3 := Lib.hid (T2.out.trans (hb.below.mono T2.out.size))
  have A_3 := Lib.hid (A_2.out.keep hb.below)
  have B_3 := Lib.hid (B_2.out.keep hb.below)
  clear T2 A_2 B_2
  have R_3 := Lib.hid (RdO.two w2 a b)
  clear hb
  generalize (w2.alloc (.cells #[.string a.id, .string a.pn, .string a.fr, .string a.to, .int .i64 a.pf, .int .i64 a.pu, .string b.id, .string b.pn, .string b.fr, .string b.to, .int .i64 b.pf, .int .i64 b.pu] 26)) = w3 at *
  refine (HF.out _ _ _ R_3.out).mono ?_
  rintro e _ ⟨rfl, rfl⟩
  clear R_3
  obtain ⟨_, ⟨a0, a1, a2, a3, a4, a5⟩, _⟩ := A_3.out
  obtain ⟨_, ⟨b0, b1, b2, b3, b4, b5⟩, _⟩ := B_3.out
  go_wp2_with fail
  refine (HT1.out _ (HL.out.keep T3.out)).mono ?_
  rintro e w4 ⟨rfl, hb⟩
  clear a0 a1 a2 a3 a4 a5 b0 b1 b2 b3 b4 b5
  have T4 := Lib.hid (T3.out.trans (hb.mono T3.out.size))
  have A_4 := Lib.hid (A_3.out.keep hb)
  have B_4 := Lib.hid (B_3.out.keep hb)
  clear T3 A_3 B_3
  clear hb
  obtain ⟨_, ⟨a0, a1, a2, a3, a4, a5⟩, _⟩ := A_4.out
  obtain ⟨_, ⟨b0, b1, b2, b3, b4, b5⟩, _⟩ := B_4.out
  go_wp2_with fail
  refine (HT2.out _ (HL.out.keep T4.out)).mono ?_
  rintro e w5 ⟨rfl, hb⟩
  clear a0 a1 a2 a3 a4 a5 b0 b1 b2 b3 b4 b5
  have T5 := Lib.hid (T4.out.trans (hb.mono T4.out.size))
  have A_5 := Lib.hid (A_4.out.keep hb)
  have B_5 := Lib.hid (B_4.out.keep hb)
  clear T4 A_4 B_4
  clear hb
  obtain ⟨_, ⟨a0, a1, a2, a3, a4, a5⟩, _⟩ := A_5.out
  obtain ⟨_, ⟨b0, b1, b2, b3, b4, b5⟩, _⟩ := B_5.out
  go_wp2_with fail
  have hb : Gr w5 (w5.alloc (.cells #[.string a.id, .string a.pn, .string a.fr, .string a.to, .int .i64 a.pf, .int .i64 a.pu] 26)) := Gr.one _ _
  clear a0 a1 a2 a3 a4 a5 b0 b1 b2 b3 b4 b5
  have T6 := Lib.hid (T5.out.trans (hb.below.mono T5.out.size))
  have A_6 := Lib.hid (A_5.out.keep hb.below)
  have B_6 := Lib.hid (B_5.out.keep hb.below)
  clear T5 A_5 B_5
  have R_6 := Lib.hid (RdO.one w5 a)
  clear hb
  generalize (w5.alloc (.cells #[.string a.id, .string a.pn, .string a.fr, .string a.to, .int .i64 a.pf, .int .i64 a.pu] 26)) = w6 at *
  refine (HP.out _ _ _ R_6.out).mono ?_
  rintro e w7 ⟨rfl, hb⟩
  have T7 := Lib.hid (T6.out.trans (hb.mono T6.out.size))
  have A_7 := Lib.hid (A_6.out.keep hb)
  have B_7 := Lib.hid (B_6.out.keep hb)
  have R_7 := Lib.hid (R_6.out.keep hb)
  clear T6 A_6 B_6 R_6
  clear hb
  clear R_7
  obtain ⟨_, ⟨a0, a1, a2, a3, a4, a5⟩, _⟩ := A_7.out
  obtain ⟨_, ⟨b0, b1, b2, b3, b4, b5⟩, _⟩ := B_7.out
  go_wp2_with fail
  refine (HP1.out _ (HL.out.keep T7.out)).mono ?_
  rintro e w8 ⟨rfl, hb⟩
  clear a0 a1 a2 a3 a4 a5 b0 b1 b2 b3 b4 b5
  have T8 := Lib.hid (T7.out.trans (hb.mono T7.out.size))
  have A_8 := Lib.hid (A_7.out.keep hb)
  have B_8 := Lib.hid (B_7.out.keep hb)
  clear T7 A_7 B_7
  clear hb
  obtain ⟨_, ⟨a0, a1, a2, a3, a4, a5⟩, _⟩ := A_8.out
  obtain ⟨_, ⟨b0, b1, b2, b3, b4, b5⟩, _⟩ := B_8.out
  go_wp2_with fail
  have hb : Gr w8 (w8.alloc (.cells #[.string a.id, .string a.pn, .string a.fr, .string a.to, .int .i64 a.pf, .int .i64 a.pu] 26)) := Gr.one _ _
  clear a0 a1 a2 a3 a4 a5 b0 b1 b2 b3 b4 b5
  have T9 := Lib.hid (T8.out.trans (hb.below.mono T8.out.size))
  have A_9 := Lib.hid (A_8.out.keep hb.below)
  have B_9 := Lib.hid (B_8.out.keep hb.below)
  clear T8 A_8 B_8
  have P_9 : Hid (Bx (w8.alloc (.cells #[.string a.id, .string a.pn, .string a.fr, .string a.to, .int .i64 a.pf, .int .i64 a.pu] 26)) w8.heap.size a) := Lib.hid (Bx.made w8 a 26)
  clear hb
  generalize (w8.alloc (.cells #[.string a.id, .string a.pn, .string a.fr, .string a.to, .int .i64 a.pf, .int .i64 a.pu] 26)) = w9 at *
  obtain ⟨_, ⟨a0, a1, a2, a3, a4, a5⟩, _⟩ := A_9.out
  obtain ⟨_, ⟨b0, b1, b2, b3, b4, b5⟩, _⟩ := B_9.out
  obtain ⟨_, ⟨p0, p1, p2, p3, p4, p5⟩, _⟩ := P_9.out
  go_wp2_with fail
  refine (HP2.out _ (HL.out.keep T9.out)).mono ?_
  rintro e w10 ⟨rfl, hb⟩
  clear a0 a1 a2 a3 a4 a5 b0 b1 b2 b3 b4 b5 p0 p1 p2 p3 p4 p5
  have T10 := Lib.hid (T9.out.trans (hb.mono T9.out.size))
  have A_10 := Lib.hid (A_9.out.keep hb)
  have B_10 := Lib.hid (B_9.out.keep hb)
  have P_10 := Lib.hid (P_9.out.keep hb)
  clear T9 A_9 B_9 P_9
  clear hb
  obtain ⟨_, ⟨a0, a1, a2, a3, a4, a5⟩, _⟩ := A_10.out
  obtain ⟨_, ⟨b0, b1, b2, b3, b4, b5⟩, _⟩ := B_10.out
  obtain ⟨_, ⟨p0, p1, p2, p3, p4, p5⟩, _⟩ := P_10.out
  go_wp2_with fail
  have hb : Gr w10 (w10.alloc (.cells #[.string p.id, .string p.pn, .string p.fr, .string p.to, .int .i64 p.pf, .int .i64 p.pu] 26)) := Gr.one _ _
  clear a0 a1 a2 a3 a4 a5 b0 b1 b2 b3 b4 b5 p0 p1 p2 p3 p4 p5
  have T11 := Lib.hid (T10.out.trans (hb.below.mono T10.out.size))
  have A_11 := Lib.hid (A_10.out.keep hb.below)
  have B_11 := Lib.hid (B_10.out.keep hb.below)
  have P_11 := Lib.hid (P_10.out.keep hb.below)
  clear T10 A_10 B_10 P_10
  have Q_11 : Hid (Bx (w10.alloc (.cells #[.string p.id, .string p.pn, .string p.fr, .string p.to, .int .i64 p.pf, .int .i64 p.pu] 26)) w10.heap.size p) := Lib.hid (Bx.made w10 p 26)
  clear hb
  generalize (w10.alloc (.cells #[.string p.id, .string p.pn, .string p.fr, .string p.to, .int .i64 p.pf, .int .i64 p.pu] 26)) = w11 at *
  obtain ⟨_, ⟨a0, a1, a2, a3, a4, a5⟩, _⟩ := A_11.out
  obtain ⟨_, ⟨b0, b1, b2, b3, b4, b5⟩, _⟩ := B_11.out
  obtain ⟨_, ⟨p0, p1, p2, p3, p4, p5⟩, _⟩ := P_11.out
  obtain ⟨_, ⟨q0, q1, q2, q3, q4, q5⟩, _⟩ := Q_11.out
  go_wp2_with fail
  refine (HT3.out _ (HL.out.keep T11.out)).mono ?_
  rintro e w12 ⟨rfl, hb⟩
  clear a0 a1 a2 a3 a4 a5 b0 b1 b2 b3 b4 b5 p0 p1 p2 p3 p4 p5 q0 q1 q2 q3 q4 q5
  have T12 := Lib.hid (T11.out.trans (hb.mono T11.out.size))
  have A_12 := Lib.hid (A_11.out.keep hb)
  have B_12 := Lib.hid (B_11.out.keep hb)
  have P_12 := Lib.hid (P_11.out.keep hb)
  have Q_12 := Lib.hid (Q_11.out.keep hb)
  clear T11 A_11 B_11 P_11 Q_11
  clear hb
  obtain ⟨_, ⟨a0, a1, a2, a3, a4, a5⟩, _⟩ := A_12.out
  obtain ⟨_, ⟨b0, b1, b2, b3, b4, b5⟩, _⟩ := B_12.out
  obtain ⟨_, ⟨p0, p1, p2, p3, p4, p5⟩, _⟩ := P_12.out
  obtain ⟨_, ⟨q0, q1, q2, q3, q4, q5⟩, _⟩ := Q_12.out
  go_wp2_with fail
  go_ret
  exact ⟨rfl, T12.out⟩
set_option maxRecDepth 100000 in
set_option maxHeartbeats 8000000 in
theorem texts_c1 (a p : Ord) (s t1 : ByteArray) (w : World) (HL : Hid (LaidT w)) (hs : s.size ≤ 300) (HF : Hid (∀ W A c, RdO W A [a, a] → Calls Tryd.prog 10 #[.slice A 2 c] W fun e w' => e = .returned (.bool true) ∧ W = w')) (HT1 : Hid (∀ W, LaidT W → Calls Tryd.prog 14 #[.agg (encO a)] W fun e w' => e = .returned (.tuple #[.string t1, .int .i64 0]) ∧ Below W.heap.size W w')) (HP : Hid (∀ W A c, RdO W A [a] → Calls Tryd.prog 18 #[.slice A 1 c] W fun e w' => e = .returned (.bool true) ∧ Below W.heap.size W w')) (HP1 : Hid (∀ W, LaidT W → Calls Tryd.prog 16 #[.string t1] W fun e w' => e = .returned (.tuple #[.agg (encO a), .int .i64 0]) ∧ Below W.heap.size W w')) (HP2 : Hid (∀ W, LaidT W → Calls Tryd.prog 16 #[.string s] W fun e w' => e = .returned (.tuple #[.agg (encO p), .int .i64 0]) ∧ Below W.heap.size W w')) (HT3 : Hid (∀ W, LaidT W → Calls Tryd.prog 14 #[.agg (encO p)] W fun e w' => e = .returned (.tuple #[.string s, .int .i64 0]) ∧ Below W.heap.size W w')) : Calls Tryd.prog 8 #[.agg (encO a), .agg (encO a), .string s] w (Yes w) := by
  go_enter Tryd.func8, Tryd.ntmps8
  go_wp2_with fail
  have T0 := Lib.hid (Below.refl w.heap.size w)
  have hb : Gr w ((w.alloc (.cells (encO a) 26)).alloc (.cells (encO a) 26)) := (Gr.one _ _).alloc _
  have T1 := Lib.hid (T0.out.trans (hb.below.mono T0.out.size))
  clear T0
  have A_1 : Hid (Bx ((w.alloc (.cells (encO a) 26)).alloc (.cells (encO a) 26)) w.heap.size a) := Lib.hid ((Bx.made w a 26).keep (Gr.one _ _).below)
  have B_1 : Hid (Bx ((w.alloc (.cells (encO a) 26)).alloc (.cells (encO a) 26)) (w.heap.size + 1) a) := Lib.hid (by simpa using Bx.made (w.alloc (.cells (encO a) 26)) a 26)
  clear hb
  generalize ((w.alloc (.cells (encO a) 26)).alloc (.cells (encO a) 26)) = w1 at *
  refine (head_any _ (HL.out.keep T1.out)).mono ?_
  rintro e w2 ⟨rfl, hb⟩
  have T2 := Lib.hid (T1.out.trans (hb.mono T1.out.size))
  have A_2 := Lib.hid (A_1.out.keep hb)
  have B_2 := Lib.hid (B_1.out.keep hb)
  clear T1 A_1 B_1
  clear hb
  obtain ⟨_, ⟨a0, a1, a2, a3, a4, a5⟩, _⟩ := A_2.out
  obtain ⟨_, ⟨b0, b1, b2, b3, b4, b5⟩, _⟩ := B_2.out
  go_wp2_with fail
  have hb : Gr w2 (w2.alloc (.cells #[.string a.id, .string a.pn, .string a.fr, .string a.to, .int .i64 a.pf, .int .i64 a.pu, .string a.id, .string a.pn, .string a.fr, .string a.to, .int .i64 a.pf, .int .i64 a.pu] 26)) := Gr.one _ _
  clear a0 a1 a2 a3 a4 a5 b0 b1 b2 b3 b4 b5
  have T3 := Lib.hid (T2.out.trans (hb.below.mono T2.out.size))
  have A_3 := Lib.hid (A_2.out.keep hb.below)
  have B_3 := Lib.hid (B_2.out.keep hb.below)
  clear T2 A_2 B_2
  have R_3 := Lib.hid (RdO.two w2 a a)
  clear hb
  generalize (w2.alloc (.cells #[.string a.id, .string a.pn, .string a.fr, .string a.to, .int .i64 a.pf, .int .i64 a.pu, .string a.id, .string a.pn, .string a.fr, .string a.to, .int .i64 a.pf, .int .i64 a.pu] 26)) = w3 at *
  refine (HF.out _ _ _ R_3.out).mono ?_
  rintro e _ ⟨rfl, rfl⟩
  clear R_3
  obtain ⟨_, ⟨a0, a1, a2, a3, a4, a5⟩, _⟩ := A_3.out
  obtain ⟨_, ⟨b0, b1, b2, b3, b4, b5⟩, _⟩ := B_3.out
  go_wp2_with fail
  refine (HT1.out _ (HL.out.keep T3.out)).mono ?_
  rintro e w4 ⟨rfl, hb⟩
  clear a0 a1 a2 a3 a4 a5 b0 b1 b2 b3 b4 b5
  have T4 := Lib.hid (T3.out.trans (hb.mono T3.out.size))
  have A_4 := Lib.hid (A_3.out.keep hb)
  have B_4 := Lib.hid (B_3.out.keep hb)
  clear T3 A_3 B_3
  clear hb
  obtain ⟨_, ⟨a0, a1, a2, a3, a4, a5⟩, _⟩ := A_4.out
  obtain ⟨_, ⟨b0, b1, b2, b3, b4, b5⟩, _⟩ := B_4.out
  go_wp2_with fail
  refine (HT1.out _ (HL.out.keep T4.out)).mono ?_
  rintro e w5 ⟨rfl, hb⟩
  clear a0 a1 a2 a3 a4 a5 b0 b1 b2 b3 b4 b5
  have T5 := Lib.hid (T4.out.trans (hb.mono T4.out.size))
  have A_5 := Lib.hid (A_4.out.keep hb)
  have B_5 := Lib.hid (B_4.out.keep hb)
  clear T4 A_4 B_4
  clear hb
  obtain ⟨_, ⟨a0, a1, a2, a3, a4, a5⟩, _⟩ := A_5.out
  obtain ⟨_, ⟨b0, b1, b2, b3, b4, b5⟩, _⟩ := B_5.out
  go_wp2_with fail
  have hb : Gr w5 (w5.alloc (.cells #[.string a.id, .string a.pn, .string a.fr, .string a.to, .int .i64 a.pf, .int .i64 a.pu] 26)) := Gr.one _ _
  clear a0 a1 a2 a3 a4 a5 b0 b1 b2 b3 b4 b5
  have T6 := Lib.hid (T5.out.trans (hb.below.mono T5.out.size))
  have A_6 := Lib.hid (A_5.out.keep hb.below)
  have B_6 := Lib.hid (B_5.out.keep hb.below)
  clear T5 A_5 B_5
  have R_6 := Lib.hid (RdO.one w5 a)
  clear hb
  generalize (w5.alloc (.cells #[.string a.id, .string a.pn, .string a.fr, .string a.to, .int .i64 a.pf, .int .i64 a.pu] 26)) = w6 at *
  refine (HP.out _ _ _ R_6.out).mono ?_
  rintro e w7 ⟨rfl, hb⟩
  have T7 := Lib.hid (T6.out.trans (hb.mono T6.out.size))
  have A_7 := Lib.hid (A_6.out.keep hb)
  have B_7 := Lib.hid (B_6.out.keep hb)
  have R_7 := Lib.hid (R_6.out.keep hb)
  clear T6 A_6 B_6 R_6
  clear hb
  clear R_7
  obtain ⟨_, ⟨a0, a1, a2, a3, a4, a5⟩, _⟩ := A_7.out
  obtain ⟨_, ⟨b0, b1, b2, b3, b4, b5⟩, _⟩ := B_7.out
  go_wp2_with fail
  refine (HP1.out _ (HL.out.keep T7.out)).mono ?_
  rintro e w8 ⟨rfl, hb⟩
  clear a0 a1 a2 a3 a4 a5 b0 b1 b2 b3 b4 b5
  have T8 := Lib.hid (T7.out.trans (hb.mono T7.out.size))
  have A_8 := Lib.hid (A_7.out.keep hb)
  have B_8 := Lib.hid (B_7.out.keep hb)
  clear T7 A_7 B_7
  clear hb
  obtain ⟨_, ⟨a0, a1, a2, a3, a4, a5⟩, _⟩ := A_8.out
  obtain ⟨_, ⟨b0, b1, b2, b3, b4, b5⟩, _⟩ := B_8.out
  go_wp2_with fail
  have hb : Gr w8 (w8.alloc (.cells #[.string a.id, .string a.pn, .string a.fr, .string a.to, .int .i64 a.pf, .int .i64 a.pu] 26)) := Gr.one _ _
  clear a0 a1 a2 a3 a4 a5 b0 b1 b2 b3 b4 b5
  have T9 := Lib.hid (T8.out.trans (hb.below.mono T8.out.size))
  have A_9 := Lib.hid (A_8.out.keep hb.below)
  have B_9 := Lib.hid (B_8.out.keep hb.below)
  clear T8 A_8 B_8
  have P_9 : Hid (Bx (w8.alloc (.cells #[.string a.id, .string a.pn, .string a.fr, .string a.to, .int .i64 a.pf, .int .i64 a.pu] 26)) w8.heap.size a) := Lib.hid (Bx.made w8 a 26)
  clear hb
  generalize (w8.alloc (.cells #[.string a.id, .string a.pn, .string a.fr, .string a.to, .int .i64 a.pf, .int .i64 a.pu] 26)) = w9 at *
  obtain ⟨_, ⟨a0, a1, a2, a3, a4, a5⟩, _⟩ := A_9.out
  obtain ⟨_, ⟨b0, b1, b2, b3, b4, b5⟩, _⟩ := B_9.out
  obtain ⟨_, ⟨p0, p1, p2, p3, p4, p5⟩, _⟩ := P_9.out
  go_wp2_with fail
  refine (HP2.out _ (HL.out.keep T9.out)).mono ?_
  rintro e w10 ⟨rfl, hb⟩
  clear a0 a1 a2 a3 a4 a5 b0 b1 b2 b3 b4 b5 p0 p1 p2 p3 p4 p5
  have T10 := Lib.hid (T9.out.trans (hb.mono T9.out.size))
  have A_10 := Lib.hid (A_9.out.keep hb)
  have B_10 := Lib.hid (B_9.out.keep hb)
  have P_10 := Lib.hid (P_9.out.keep hb)
  clear T9 A_9 B_9 P_9
  clear hb
  obtain ⟨_, ⟨a0, a1, a2, a3, a4, a5⟩, _⟩ := A_10.out
  obtain ⟨_, ⟨b0, b1, b2, b3, b4, b5⟩, _⟩ := B_10.out
  obtain ⟨_, ⟨p0, p1, p2, p3, p4, p5⟩, _⟩ := P_10.out
  go_wp2_with fail
  have hb : Gr w10 (w10.alloc (.cells #[.string p.id, .string p.pn, .string p.fr, .string p.to, .int .i64 p.pf, .int .i64 p.pu] 26)) := Gr.one _ _
  clear a0 a1 a2 a3 a4 a5 b0 b1 b2 b3 b4 b5 p0 p1 p2 p3 p4 p5
  have T11 := Lib.hid (T10.out.trans (hb.below.mono T10.out.size))
  have A_11 := Lib.hid (A_10.out.keep hb.below)
  have B_11 := Lib.hid (B_10.out.keep hb.below)
  have P_11 := Lib.hid (P_10.out.keep hb.below)
  clear T10 A_10 B_10 P_10
  have Q_11 : Hid (Bx (w10.alloc (.cells #[.string p.id, .string p.pn, .string p.fr, .string p.to, .int .i64 p.pf, .int .i64 p.pu] 26)) w10.heap.size p) := Lib.hid (Bx.made w10 p 26)
  clear hb
  generalize (w10.alloc (.cells #[.string p.id, .string p.pn, .string p.fr, .string p.to, .int .i64 p.pf, .int .i64 p.pu] 26)) = w11 at *
  obtain ⟨_, ⟨a0, a1, a2, a3, a4, a5⟩, _⟩ := A_11.out
  obtain ⟨_, ⟨b0, b1, b2, b3, b4, b5⟩, _⟩ := B_11.out
  obtain ⟨_, ⟨p0, p1, p2, p3, p4, p5⟩, _⟩ := P_11.out
  obtain ⟨_, ⟨q0, q1, q2, q3, q4, q5⟩, _⟩ := Q_11.out
  go_wp2_with fail
  refine (HT3.out _ (HL.out.keep T11.out)).mono ?_
  rintro e w12 ⟨rfl, hb⟩
  clear a0 a1 a2 a3 a4 a5 b0 b1 b2 b3 b4 b5 p0 p1 p2 p3 p4 p5 q0 q1 q2 q3 q4 q5
  have T12 := Lib.hid (T11.out.trans (hb.mono T11.out.size))
  have A_12 := Lib.hid (A_11.out.keep hb)
  have B_12 := Lib.hid (B_11.out.keep hb)
  have P_12 := Lib.hid (P_11.out.keep hb)
  have Q_12 := Lib.hid (Q_11.out.keep hb)
  clear T11 A_11 B_11 P_11 Q_11
  clear hb
  obtain ⟨_, ⟨a0, a1, a2, a3, a4, a5⟩, _⟩ := A_12.out
  obtain ⟨_, ⟨b0, b1, b2, b3, b4, b5⟩, _⟩ := B_12.out
  obtain ⟨_, ⟨p0, p1, p2, p3, p4, p5⟩, _⟩ := P_12.out
  obtain ⟨_, ⟨q0, q1, q2, q3, q4, q5⟩, _⟩ := Q_12.out
  go_wp2_with fail
  go_ret
  exact ⟨rfl, T12.out⟩
set_option maxRecDepth 100000 in
set_option maxHeartbeats 8000000 in
theorem texts_d1 (a b p : Ord) (s t1 t2 : ByteArray) (w : World) (HL : Hid (LaidT w)) (hs : s.size ≤ 300) (HF : Hid (∀ W A c, RdO W A [a, b] → Calls Tryd.prog 10 #[.slice A 2 c] W fun e w' => e = .returned (.bool true) ∧ W = w')) (hne : HNE a b) (ht : (t1.toList == t2.toList) = false) (HT1 : Hid (∀ W, LaidT W → Calls Tryd.prog 14 #[.agg (encO a)] W fun e w' => e = .returned (.tuple #[.string t1, .int .i64 0]) ∧ Below W.heap.size W w')) (HT2 : Hid (∀ W, LaidT W → Calls Tryd.prog 14 #[.agg (encO b)] W fun e w' => e = .returned (.tuple #[.string t2, .int .i64 0]) ∧ Below W.heap.size W w')) (HP : Hid (∀ W A c, RdO W A [a] → Calls Tryd.prog 18 #[.slice A 1 c] W fun e w' => e = .returned (.bool true) ∧ Below W.heap.size W w')) (HP1 : Hid (∀ W, LaidT W → Calls Tryd.prog 16 #[.string t1] W fun e w' => e = .returned (.tuple #[.agg (encO a), .int .i64 0]) ∧ Below W.heap.size W w')) (HP2 : Hid (∀ W, LaidT W → Calls Tryd.prog 16 #[.string s] W fun e w' => e = .returned (.tuple #[.agg (encO p), .int .i64 0]) ∧ Below W.heap.size W w')) (HT3 : Hid (∀ W, LaidT W → Calls Tryd.prog 14 #[.agg (encO p)] W fun e w' => e = .returned (.tuple #[.string s, .int .i64 0]) ∧ Below W.heap.size W w')) : Calls Tryd.prog 8 #[.agg (encO a), .agg (encO b), .string s] w (Yes w) := by
  go_enter Tryd.func8, Tryd.ntmps8
  go_wp2_with fail
  have T0 := Lib.hid (Below.refl w.heap.size w)
  have hb : Gr w ((w.alloc (.cells (encO a) 26)).alloc (.cells (encO b) 26)) := (Gr.one _ _).alloc _
  have T1 := Lib.hid (T0.out.trans (hb.below.mono T0.out.size))
  clear T0
  have A_1 : Hid (Bx ((w.alloc (.cells (encO a) 26)).alloc (.cells (encO b) 26)) w.heap.size a) := Lib.hid ((Bx.made w a 26).keep (Gr.one _ _).below)
  have B_1 : Hid (Bx ((w.alloc (.cells (encO a) 26)).alloc (.cells (encO b) 26)) (w.heap.size + 1) b) := Lib.hid (by simpa using Bx.made (w.alloc (.cells (encO a) 26)) b 26)
  clear hb
  generalize ((w.alloc (.cells (encO a) 26)).alloc (.cells (encO b) 26)) = w1 at *
  refine (head_any _ (HL.out.keep T1.out)).mono ?_
  rintro e w2 ⟨rfl, hb⟩
  have T2 := Lib.hid (T1.out.trans (hb.mono T1.out.size))
  have A_2 := Lib.hid (A_1.out.keep hb)
  have B_2 := Lib.hid (B_1.out.keep hb)
  clear T1 A_1 B_1
  clear hb
  obtain ⟨_, ⟨a0, a1, a2, a3, a4, a5⟩, _⟩ := A_2.out
  obtain ⟨_, ⟨b0, b1, b2, b3, b4, b5⟩, _⟩ := B_2.out
  go_wp2_with fail
  have hb : Gr w2 (w2.alloc (.cells #[.string a.id, .string a.pn, .string a.fr, .string a.to, .int .i64 a.pf, .int .i64 a.pu, .string b.id, .string b.pn, .string b.fr, .string b.to, .int .i64 b.pf, .int .i64 b.pu] 26)) := Gr.one _ _
  clear a0 a1 a2 a3 a4 a5 b0 b1 b2 b3 b4 b5
  have T3 := Lib.hid (T2.out.trans (hb.below.mono T2.out.size))
  have A_3 := Lib.hid (A_2.out.keep hb.below)
  have B_3 := Lib.hid (B_2.out.keep hb.below)
  clear T2 A_2 B_2
  have R_3 := Lib.hid (RdO.two w2 a b)
  clear hb
  generalize (w2.alloc (.cells #[.string a.id, .string a.pn, .string a.fr, .string a.to, .int .i64 a.pf, .int .i64 a.pu, .string b.id, .string b.pn, .string b.fr, .string b.to, .int .i64 b.pf, .int .i64 b.pu] 26)) = w3 at *
  refine (HF.out _ _ _ R_3.out).mono ?_
  rintro e _ ⟨rfl, rfl⟩
  clear R_3
  obtain ⟨_, ⟨a0, a1, a2, a3, a4, a5⟩, _⟩ := A_3.out
  obtain ⟨_, ⟨b0, b1, b2, b3, b4, b5⟩, _⟩ := B_3.out
  go_wp2_with fail
  refine (HT1.out _ (HL.out.keep T3.out)).mono ?_
  rintro e w4 ⟨rfl, hb⟩
  clear a0 a1 a2 a3 a4 a5 b0 b1 b2 b3 b4 b5
  have T4 := Lib.hid (T3.out.trans (hb.mono T3.out.size))
  have A_4 := Lib.hid (A_3.out.keep hb)
  have B_4 := Lib.hid (B_3.out.keep hb)
  clear T3 A_3 B_3
  clear hb
  obtain ⟨_, ⟨a0, a1, a2, a3, a4, a5⟩, _⟩ := A_4.out
  obtain ⟨_, ⟨b0, b1, b2, b3, b4, b5⟩, _⟩ := B_4.out
  go_wp2_with fail
  refine (HT2.out _ (HL.out.keep T4.out)).mono ?_
  rintro e w5 ⟨rfl, hb⟩
  clear a0 a1 a2 a3 a4 a5 b0 b1 b2 b3 b4 b5
  have T5 := Lib.hid (T4.out.trans (hb.mono T4.out.size))
  have A_5 := Lib.hid (A_4.out.keep hb)
  have B_5 := Lib.hid (B_4.out.keep hb)
  clear T4 A_4 B_4
  clear hb
  obtain ⟨_, ⟨a0, a1, a2, a3, a4, a5⟩, _⟩ := A_5.out
  obtain ⟨_, ⟨b0, b1, b2, b3, b4, b5⟩, _⟩ := B_5.out
  go_wp2_with fail
  have hb : Gr w5 (w5.alloc (.cells #[.string a.id, .string a.pn, .string a.fr, .string a.to, .int .i64 a.pf, .int .i64 a.pu] 26)) := Gr.one _ _
  clear a0 a1 a2 a3 a4 a5 b0 b1 b2 b3 b4 b5
  have T6 := Lib.hid (T5.out.trans (hb.below.mono T5.out.size))
  have A_6 := Lib.hid (A_5.out.keep hb.below)
  have B_6 := Lib.hid (B_5.out.keep hb.below)
  clear T5 A_5 B_5
  have R_6 := Lib.hid (RdO.one w5 a)
  clear hb
  generalize (w5.alloc (.cells #[.string a.id, .string a.pn, .string a.fr, .string a.to, .int .i64 a.pf, .int .i64 a.pu] 26)) = w6 at *
  refine (HP.out _ _ _ R_6.out).mono ?_
  rintro e w7 ⟨rfl, hb⟩
  have T7 := Lib.hid (T6.out.trans (hb.mono T6.out.size))
  have A_7 := Lib.hid (A_6.out.keep hb)
  have B_7 := Lib.hid (B_6.out.keep hb)
  have R_7 := Lib.hid (R_6.out.keep hb)
  clear T6 A_6 B_6 R_6
  clear hb
  clear R_7
  obtain ⟨_, ⟨a0, a1, a2, a3, a4, a5⟩, _⟩ := A_7.out
  obtain ⟨_, ⟨b0, b1, b2, b3, b4, b5⟩, _⟩ := B_7.out
  go_wp2_with fail
  refine (HP1.out _ (HL.out.keep T7.out)).mono ?_
  rintro e w8 ⟨rfl, hb⟩
  clear a0 a1 a2 a3 a4 a5 b0 b1 b2 b3 b4 b5
  have T8 := Lib.hid (T7.out.trans (hb.mono T7.out.size))
  have A_8 := Lib.hid (A_7.out.keep hb)
  have B_8 := Lib.hid (B_7.out.keep hb)
  clear T7 A_7 B_7
  clear hb
  obtain ⟨_, ⟨a0, a1, a2, a3, a4, a5⟩, _⟩ := A_8.out
  obtain ⟨_, ⟨b0, b1, b2, b3, b4, b5⟩, _⟩ := B_8.out
  go_wp2_with fail
  all_goals first
    | (exfalso; exact hne_no hne (by assumption) (by assumption) (by assumption) (by assumption) (by assumption) (by assumption))
    | skip
  all_goals try rw [← (show a.pf = b.pf by assumption)]
  all_goals
    have hb : Gr w8 (w8.alloc (.cells #[.string a.id, .string a.pn, .string a.fr, .string a.to, .int .i64 a.pf, .int .i64 a.pu] 26)) := Gr.one _ _
    clear a0 a1 a2 a3 a4 a5 b0 b1 b2 b3 b4 b5
    have T9 := Lib.hid (T8.out.trans (hb.below.mono T8.out.size))
    have A_9 := Lib.hid (A_8.out.keep hb.below)
    have B_9 := Lib.hid (B_8.out.keep hb.below)
    clear T8 A_8 B_8
    have P_9 : Hid (Bx (w8.alloc (.cells #[.string a.id, .string a.pn, .string a.fr, .string a.to, .int .i64 a.pf, .int .i64 a.pu] 26)) w8.heap.size a) := Lib.hid (Bx.made w8 a 26)
    clear hb
    generalize (w8.alloc (.cells #[.string a.id, .string a.pn, .string a.fr, .string a.to, .int .i64 a.pf, .int .i64 a.pu] 26)) = w9 at *
    obtain ⟨_, ⟨a0, a1, a2, a3, a4, a5⟩, _⟩ := A_9.out
    obtain ⟨_, ⟨b0, b1, b2, b3, b4, b5⟩, _⟩ := B_9.out
    obtain ⟨_, ⟨p0, p1, p2, p3, p4, p5⟩, _⟩ := P_9.out
    go_wp2_with fail
    refine (HP2.out _ (HL.out.keep T9.out)).mono ?_
    rintro e w10 ⟨rfl, hb⟩
    clear a0 a1 a2 a3 a4 a5 b0 b1 b2 b3 b4 b5 p0 p1 p2 p3 p4 p5
    have T10 := Lib.hid (T9.out.trans (hb.mono T9.out.size))
    have A_10 := Lib.hid (A_9.out.keep hb)
    have B_10 := Lib.hid (B_9.out.keep hb)
    have P_10 := Lib.hid (P_9.out.keep hb)
    clear T9 A_9 B_9 P_9
    clear hb
    obtain ⟨_, ⟨a0, a1, a2, a3, a4, a5⟩, _⟩ := A_10.out
    obtain ⟨_, ⟨b0, b1, b2, b3, b4, b5⟩, _⟩ := B_10.out
    obtain ⟨_, ⟨p0, p1, p2, p3, p4, p5⟩, _⟩ := P_10.out
    go_wp2_with fail
    have hb : Gr w10 (w10.alloc (.cells #[.string p.id, .string p.pn, .string p.fr, .string p.to, .int .i64 p.pf, .int .i64 p.pu] 26)) := Gr.one _ _
    clear a0 a1 a2 a3 a4 a5 b0 b1 b2 b3 b4 b5 p0 p1 p2 p3 p4 p5
    have T11 := Lib.hid (T10.out.trans (hb.below.mono T10.out.size))
    have A_11 := Lib.hid (A_10.out.keep hb.below)
    have B_11 := Lib.hid (B_10.out.keep hb.below)
    have P_11 := Lib.hid (P_10.out.keep hb.below)
    clear T10 A_10 B_10 P_10
    have Q_11 : Hid (Bx (w10.alloc (.cells #[.string p.id, .string p.pn, .string p.fr, .string p.to, .int .i64 p.pf, .int .i64 p.pu] 26)) w10.heap.size p) := Lib.hid (Bx.made w10 p 26)
    clear hb
    generalize (w10.alloc (.cells #[.string p.id, .string p.pn, .string p.fr, .string p.to, .int .i64 p.pf, .int .i64 p.pu] 26)) = w11 at *
    obtain ⟨_, ⟨a0, a1, a2, a3, a4, a5⟩, _⟩ := A_11.out
    obtain ⟨_, ⟨b0, b1, b2, b3, b4, b5⟩, _⟩ := B_11.out
    obtain ⟨_, ⟨p0, p1, p2, p3, p4, p5⟩, _⟩ := P_11.out
    obtain ⟨_, ⟨q0, q1, q2, q3, q4, q5⟩, _⟩ := Q_11.out
    go_wp2_with fail
    refine (HT3.out _ (HL.out.keep T11.out)).mono ?_
    rintro e w12 ⟨rfl, hb⟩
    clear a0 a1 a2 a3 a4 a5 b0 b1 b2 b3 b4 b5 p0 p1 p2 p3 p4 p5 q0 q1 q2 q3 q4 q5
    have T12 := Lib.hid (T11.out.trans (hb.mono T11.out.size))
    have A_12 := Lib.hid (A_11.out.keep hb)
    have B_12 := Lib.hid (B_11.out.keep hb)
    have P_12 := Lib.hid (P_11.out.keep hb)
    have Q_12 := Lib.hid (Q_11.out.keep hb)
    clear T11 A_11 B_11 P_11 Q_11
    clear hb
    obtain ⟨_, ⟨a0, a1, a2, a3, a4, a5⟩, _⟩ := A_12.out
    obtain ⟨_, ⟨b0, b1, b2, b3, b4, b5⟩, _⟩ := B_12.out
    obtain ⟨_, ⟨p0, p1, p2, p3, p4, p5⟩, _⟩ := P_12.out
    obtain ⟨_, ⟨q0, q1, q2, q3, q4, q5⟩, _⟩ := Q_12.out
    go_wp2_with fail
    go_ret
    exact ⟨rfl, T12.out⟩
theorem texts_walk (a b : Ord) (s : ByteArray) (w : World) (hL : LaidT w) : Calls Tryd.prog 8 #[.agg (encO a), .agg (encO b), .string s] w (Yes w) := by
  cases hf : fewB [a, b]
  · exact texts_few a b s w (Lib.hid hL) (Lib.hid fun W A c hr => few_two a b hf A c W hr)
  have HF := Lib.hid (fun W A c (hr : RdO W A [a, b]) => few_two a b hf A c W hr)
  have za : Small a := by have k := few_mem hf (o := a) (by simp); exact ⟨by omega, by omega, by omega, by omega⟩
  have zb : Small b := by have k := few_mem hf (o := b) (by simp); exact ⟨by omega, by omega, by omega, by omega⟩
  by_cases hs : s.size ≤ 300
  · by_cases hx : ∃ p, oneB p = true ∧ s.data.toList = otxt p
    · obtain ⟨p, hp, ht⟩ := hx
      cases v1 : oneB a
      · cases v2 : oneB b
        · exact texts_a1 a b p s _ _ w (Lib.hid hL) hs HF (Lib.hid fun W _ => otext_no a W za v1) (Lib.hid fun W _ => otext_no b W zb v2) (Lib.hid fun W A c hr => prop_one a v1 za A c W hr) (Lib.hid fun W hL => fparse_yes s p W hL hp hs ht) (Lib.hid fun W hL => (by have k := otext_yes p W hL.1 hp; rw [show (⟨(otxt p).toArray⟩ : ByteArray) = s from ByteArray.ext (by rw [← ht])] at k; exact k))
        · exact texts_a1 a b p s _ _ w (Lib.hid hL) hs HF (Lib.hid fun W _ => otext_no a W za v1) (Lib.hid fun W hL => otext_yes b W hL.1 v2) (Lib.hid fun W A c hr => prop_one a v1 za A c W hr) (Lib.hid fun W hL => fparse_yes s p W hL hp hs ht) (Lib.hid fun W hL => (by have k := otext_yes p W hL.1 hp; rw [show (⟨(otxt p).toArray⟩ : ByteArray) = s from ByteArray.ext (by rw [← ht])] at k; exact k))
      · cases v2 : oneB b
        · exact texts_b1 a b p s _ w (Lib.hid hL) hs HF (Lib.hid fun W hL => otext_yes a W hL.1 v1) (Lib.hid fun W _ => otext_no b W zb v2) (Lib.hid fun W A c hr => prop_one a v1 za A c W hr) (Lib.hid fun W hL => fparse_txt a W hL v1 (otxt_len v1)) (Lib.hid fun W hL => fparse_yes s p W hL hp hs ht) (Lib.hid fun W hL => (by have k := otext_yes p W hL.1 hp; rw [show (⟨(otxt p).toArray⟩ : ByteArray) = s from ByteArray.ext (by rw [← ht])] at k; exact k))
        · by_cases e : a = b
          · subst e
            exact texts_c1 a p s _ w (Lib.hid hL) hs HF (Lib.hid fun W hL => otext_yes a W hL.1 v1) (Lib.hid fun W A c hr => prop_one a v1 za A c W hr) (Lib.hid fun W hL => fparse_txt a W hL v1 (otxt_len v1)) (Lib.hid fun W hL => fparse_yes s p W hL hp hs ht) (Lib.hid fun W hL => (by have k := otext_yes p W hL.1 hp; rw [show (⟨(otxt p).toArray⟩ : ByteArray) = s from ByteArray.ext (by rw [← ht])] at k; exact k))
          · exact texts_d1 a b p s _ _ w (Lib.hid hL) hs HF e (bytes_ne (fun x => e (otxt_inj v1 v2 (txt_inj2 x)))) (Lib.hid fun W hL => otext_yes a W hL.1 v1) (Lib.hid fun W hL => otext_yes b W hL.1 v2) (Lib.hid fun W A c hr => prop_one a v1 za A c W hr) (Lib.hid fun W hL => fparse_txt a W hL v1 (otxt_len v1)) (Lib.hid fun W hL => fparse_yes s p W hL hp hs ht) (Lib.hid fun W hL => (by have k := otext_yes p W hL.1 hp; rw [show (⟨(otxt p).toArray⟩ : ByteArray) = s from ByteArray.ext (by rw [← ht])] at k; exact k))
    · have hno : ∀ p, oneB p = true → s.data.toList ≠ otxt p := fun p x y => hx ⟨p, x, y⟩
      cases v1 : oneB a
      · cases v2 : oneB b
        · exact texts_a0 a b s _ _ w (Lib.hid hL) hs HF (Lib.hid fun W _ => otext_no a W za v1) (Lib.hid fun W _ => otext_no b W zb v2) (Lib.hid fun W A c hr => prop_one a v1 za A c W hr) (Lib.hid fun W hL => fparse_no s W hL hs hno)
        · exact texts_a0 a b s _ _ w (Lib.hid hL) hs HF (Lib.hid fun W _ => otext_no a W za v1) (Lib.hid fun W hL => otext_yes b W hL.1 v2) (Lib.hid fun W A c hr => prop_one a v1 za A c W hr) (Lib.hid fun W hL => fparse_no s W hL hs hno)
      · cases v2 : oneB b
        · exact texts_b0 a b s _ w (Lib.hid hL) hs HF (Lib.hid fun W hL => otext_yes a W hL.1 v1) (Lib.hid fun W _ => otext_no b W zb v2) (Lib.hid fun W A c hr => prop_one a v1 za A c W hr) (Lib.hid fun W hL => fparse_txt a W hL v1 (otxt_len v1)) (Lib.hid fun W hL => fparse_no s W hL hs hno)
        · by_cases e : a = b
          · subst e
            exact texts_c0 a s _ w (Lib.hid hL) hs HF (Lib.hid fun W hL => otext_yes a W hL.1 v1) (Lib.hid fun W A c hr => prop_one a v1 za A c W hr) (Lib.hid fun W hL => fparse_txt a W hL v1 (otxt_len v1)) (Lib.hid fun W hL => fparse_no s W hL hs hno)
          · exact texts_d0 a b s _ _ w (Lib.hid hL) hs HF e (bytes_ne (fun x => e (otxt_inj v1 v2 (txt_inj2 x)))) (Lib.hid fun W hL => otext_yes a W hL.1 v1) (Lib.hid fun W hL => otext_yes b W hL.1 v2) (Lib.hid fun W A c hr => prop_one a v1 za A c W hr) (Lib.hid fun W hL => fparse_txt a W hL v1 (otxt_len v1)) (Lib.hid fun W hL => fparse_no s W hL hs hno)
  · exact texts_long a b s w (Lib.hid hL) (by omega) HF
end Go.Proofs.YtngbkdnkpolbfaaDoor
