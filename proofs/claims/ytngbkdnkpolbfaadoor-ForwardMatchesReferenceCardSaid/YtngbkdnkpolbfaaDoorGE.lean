/- The walk of the law ForwardMatchesReference. Under the condition that the tables lie in memory as the program lays them. -/
import Derived.Test.YtngbkdnkpolbfaaDoorHE
import Derived.Test.YtngbkdnkpolbfaaDoorHF
import Derived.Test.YtngbkdnkpolbfaaDoorGT
namespace Go.Proofs.YtngbkdnkpolbfaaDoor
open Go.RowKit Go.Maps

/-- a way ends -/
theorem ends_ex (pn : ByteArray) (day : Int) (l : List Ord) (door : ByteArray) : ∃ way t, Ends Ord.fr Ord.to nwB (cntO pn day l) door way t := by
  have key : ∀ (n : Nat) (way : List Ord) (x : ByteArray), l.length ≤ way.length + n → Wy (cntO pn day l) door way x → (∀ j (h : j < way.length), way[j].fr ≠ x) → ∃ way t, Ends Ord.fr Ord.to nwB (cntO pn day l) door way t := by
    intro n
    induction n with
    | zero =>
      intro way x hn hW hno
      cases hc : cntO pn day l x with
      | none => exact ⟨way, x, hW.out hc⟩
      | some o =>
        exfalso
        have k := (hW.app hno hc (own_cnt pn day l x o hc)).le
        rw [List.length_append, List.length_singleton] at k
        omega
    | succ n ih =>
      intro way x hn hW hno
      cases hc : cntO pn day l x with
      | none => exact ⟨way, x, hW.out hc⟩
      | some o =>
        have hW2 := hW.app hno hc (own_cnt pn day l x o hc)
        by_cases hx : ∃ p, ∃ h : p < (way ++ [o]).length, (way ++ [o])[p].fr = o.to
        · obtain ⟨p, h, e⟩ := hx
          exact ⟨_, _, hW2.circle h e⟩
        · exact ih (way ++ [o]) o.to (by rw [List.length_append, List.length_singleton]; omega) hW2 (fun j h e => hx ⟨j, h, e⟩)
  exact key l.length [] door (by simp) ⟨trivial, List.nodup_nil, rfl⟩ (fun j h => by cases h)
/-- what both Settles leave -/
def SG (t : ByteArray) (X : List ByteArray) (er : Int) (w : World) (e : Ending) (w' : World) : Prop :=
  ∃ (A : Option Addr) (n c : Nat), e = .returned (.tuple #[.string t, .slice A n c, .int .i64 er]) ∧ X.length = n ∧ RdS w' A X ∧ Below w.heap.size w w'
theorem texts_n {A B : Option Addr} {c d n m : Nat} {a : List ByteArray} (w : World) (h1 : RdS w A a) (h2 : RdS w B a) (hl : a.length ≤ 1000) (hn : a.length = n) (hm : a.length = m) :
    Calls Tryd.prog 20 #[.slice A n c, .slice B m d] w fun e w' => e = .returned (.bool true) ∧ Gr w w' := by
  subst hn hm; exact texts_same A B c d a w h1 h2 hl

set_option maxRecDepth 100000 in
set_option maxHeartbeats 16000000 in
theorem match_few1 (A : Option Addr) (c : Nat) (l : List Ord) (pn door : ByteArray) (day : Int) (o : Ord) (s : ByteArray) (w : World) (HL : Hid (LaidT w)) (HR : Hid (RdO w A l)) (HF1 : Hid (fewB l = false)) : Calls Tryd.prog 3 #[.slice A l.length c, .string pn, .string door, .int .i64 day, .agg (encO o), .string s] w (Yes w) := by
  go_enter Tryd.func3, Tryd.ntmps3
  go_wp2_with fail
  have T0 := Lib.hid (Below.refl w.heap.size w)
  have L_0 := Lib.hid (HR.out)
  have hb : Gr w (w.alloc (.cells (encO o) 26)) := Gr.one _ _
  have T1 := Lib.hid (T0.out.trans (hb.below.mono T0.out.size))
  have L_1 := Lib.hid (L_0.out.keep hb.below)
  clear T0 L_0
  have O_1 := Lib.hid (Bx.made w o 26)
  clear hb
  generalize (w.alloc (.cells (encO o) 26)) = w1 at *
  refine (head_any _ (HL.out.keep T1.out)).mono ?_
  rintro e w2 ⟨rfl, hb⟩
  have T2 := Lib.hid (T1.out.trans (hb.mono T1.out.size))
  have L_2 := Lib.hid (L_1.out.keep hb)
  have O_2 := Lib.hid (O_1.out.keep hb)
  clear T1 L_1 O_1
  clear hb
  obtain ⟨_, ⟨q0, q1, q2, q3, q4, q5⟩, _⟩ := O_2.out
  go_wp2_with fail
  refine (few_at HF1.out _ L_2.out).mono ?_
  rintro e _ ⟨rfl, rfl⟩
  clear q0 q1 q2 q3 q4 q5
  obtain ⟨_, ⟨q0, q1, q2, q3, q4, q5⟩, _⟩ := O_2.out
  go_wp2_with fail
  go_ret
  exact ⟨rfl, T2.out⟩
set_option maxRecDepth 100000 in
set_option maxHeartbeats 16000000 in
theorem match_few2 (A : Option Addr) (c : Nat) (l : List Ord) (pn door : ByteArray) (day : Int) (o : Ord) (s : ByteArray) (w : World) (HL : Hid (LaidT w)) (HR : Hid (RdO w A l)) (HF1 : Hid (fewB l = true)) (HF2 : Hid (fewB [o] = false)) : Calls Tryd.prog 3 #[.slice A l.length c, .string pn, .string door, .int .i64 day, .agg (encO o), .string s] w (Yes w) := by
  go_enter Tryd.func3, Tryd.ntmps3
  go_wp2_with fail
  have T0 := Lib.hid (Below.refl w.heap.size w)
  have L_0 := Lib.hid (HR.out)
  have hb : Gr w (w.alloc (.cells (encO o) 26)) := Gr.one _ _
  have T1 := Lib.hid (T0.out.trans (hb.below.mono T0.out.size))
  have L_1 := Lib.hid (L_0.out.keep hb.below)
  clear T0 L_0
  have O_1 := Lib.hid (Bx.made w o 26)
  clear hb
  generalize (w.alloc (.cells (encO o) 26)) = w1 at *
  refine (head_any _ (HL.out.keep T1.out)).mono ?_
  rintro e w2 ⟨rfl, hb⟩
  have T2 := Lib.hid (T1.out.trans (hb.mono T1.out.size))
  have L_2 := Lib.hid (L_1.out.keep hb)
  have O_2 := Lib.hid (O_1.out.keep hb)
  clear T1 L_1 O_1
  clear hb
  obtain ⟨_, ⟨q0, q1, q2, q3, q4, q5⟩, _⟩ := O_2.out
  go_wp2_with fail
  refine (few_at HF1.out _ L_2.out).mono ?_
  rintro e _ ⟨rfl, rfl⟩
  clear q0 q1 q2 q3 q4 q5
  obtain ⟨_, ⟨q0, q1, q2, q3, q4, q5⟩, _⟩ := O_2.out
  go_wp2_with fail
  have hb : Gr w2 (w2.alloc (.cells #[.string o.id, .string o.pn, .string o.fr, .string o.to, .int .i64 o.pf, .int .i64 o.pu] 26)) := Gr.one _ _
  clear q0 q1 q2 q3 q4 q5
  have T3 := Lib.hid (T2.out.trans (hb.below.mono T2.out.size))
  have L_3 := Lib.hid (L_2.out.keep hb.below)
  have O_3 := Lib.hid (O_2.out.keep hb.below)
  clear T2 L_2 O_2
  have R_3 := Lib.hid (RdO.one w2 o)
  clear hb
  generalize (w2.alloc (.cells #[.string o.id, .string o.pn, .string o.fr, .string o.to, .int .i64 o.pf, .int .i64 o.pu] 26)) = w3 at *
  refine (few_n _ _ _ _ _ HF2.out R_3.out rfl).mono ?_
  rintro e _ ⟨rfl, rfl⟩
  clear R_3
  obtain ⟨_, ⟨q0, q1, q2, q3, q4, q5⟩, _⟩ := O_3.out
  go_wp2_with fail
  go_ret
  exact ⟨rfl, T3.out⟩
set_option maxRecDepth 100000 in
set_option maxHeartbeats 16000000 in
theorem match_short (A : Option Addr) (c : Nat) (l : List Ord) (pn door : ByteArray) (day : Int) (o : Ord) (s : ByteArray) (w : World) (HL : Hid (LaidT w)) (HR : Hid (RdO w A l)) (HF1 : Hid (fewB l = true)) (HF2 : Hid (fewB [o] = true)) (HSH : Hid (shB pn door = false)) : Calls Tryd.prog 3 #[.slice A l.length c, .string pn, .string door, .int .i64 day, .agg (encO o), .string s] w (Yes w) := by
  go_enter Tryd.func3, Tryd.ntmps3
  go_wp2_with fail
  have T0 := Lib.hid (Below.refl w.heap.size w)
  have L_0 := Lib.hid (HR.out)
  have hb : Gr w (w.alloc (.cells (encO o) 26)) := Gr.one _ _
  have T1 := Lib.hid (T0.out.trans (hb.below.mono T0.out.size))
  have L_1 := Lib.hid (L_0.out.keep hb.below)
  clear T0 L_0
  have O_1 := Lib.hid (Bx.made w o 26)
  clear hb
  generalize (w.alloc (.cells (encO o) 26)) = w1 at *
  refine (head_any _ (HL.out.keep T1.out)).mono ?_
  rintro e w2 ⟨rfl, hb⟩
  have T2 := Lib.hid (T1.out.trans (hb.mono T1.out.size))
  have L_2 := Lib.hid (L_1.out.keep hb)
  have O_2 := Lib.hid (O_1.out.keep hb)
  clear T1 L_1 O_1
  clear hb
  obtain ⟨_, ⟨q0, q1, q2, q3, q4, q5⟩, _⟩ := O_2.out
  go_wp2_with fail
  refine (few_at HF1.out _ L_2.out).mono ?_
  rintro e _ ⟨rfl, rfl⟩
  clear q0 q1 q2 q3 q4 q5
  obtain ⟨_, ⟨q0, q1, q2, q3, q4, q5⟩, _⟩ := O_2.out
  go_wp2_with fail
  have hb : Gr w2 (w2.alloc (.cells #[.string o.id, .string o.pn, .string o.fr, .string o.to, .int .i64 o.pf, .int .i64 o.pu] 26)) := Gr.one _ _
  clear q0 q1 q2 q3 q4 q5
  have T3 := Lib.hid (T2.out.trans (hb.below.mono T2.out.size))
  have L_3 := Lib.hid (L_2.out.keep hb.below)
  have O_3 := Lib.hid (O_2.out.keep hb.below)
  clear T2 L_2 O_2
  have R_3 := Lib.hid (RdO.one w2 o)
  clear hb
  generalize (w2.alloc (.cells #[.string o.id, .string o.pn, .string o.fr, .string o.to, .int .i64 o.pf, .int .i64 o.pu] 26)) = w3 at *
  refine (few_n _ _ _ _ _ HF2.out R_3.out rfl).mono ?_
  rintro e _ ⟨rfl, rfl⟩
  clear R_3
  obtain ⟨_, ⟨q0, q1, q2, q3, q4, q5⟩, _⟩ := O_3.out
  go_wp2_with fail
  refine (short_at HSH.out _ (by simp) (by simp)).mono ?_
  rintro e _ ⟨rfl, rfl⟩
  have hb : Gr w3 (w3.alloc (.cells #[.string pn, .string door] 9)) := Gr.one _ _
  clear q0 q1 q2 q3 q4 q5
  have T4 := Lib.hid (T3.out.trans (hb.below.mono T3.out.size))
  have L_4 := Lib.hid (L_3.out.keep hb.below)
  have O_4 := Lib.hid (O_3.out.keep hb.below)
  clear T3 L_3 O_3
  clear hb
  generalize (w3.alloc (.cells #[.string pn, .string door] 9)) = w4 at *
  obtain ⟨_, ⟨q0, q1, q2, q3, q4, q5⟩, _⟩ := O_4.out
  go_wp2_with fail
  go_ret
  exact ⟨rfl, T4.out⟩
set_option maxRecDepth 100000 in
set_option maxHeartbeats 16000000 in
theorem match_long (A : Option Addr) (c : Nat) (l : List Ord) (pn door : ByteArray) (day : Int) (o : Ord) (s : ByteArray) (w : World) (HL : Hid (LaidT w)) (HR : Hid (RdO w A l)) (HF1 : Hid (fewB l = true)) (HF2 : Hid (fewB [o] = true)) (HSH : Hid (shB pn door = true)) (hs : 300 < s.size) : Calls Tryd.prog 3 #[.slice A l.length c, .string pn, .string door, .int .i64 day, .agg (encO o), .string s] w (Yes w) := by
  go_enter Tryd.func3, Tryd.ntmps3
  go_wp2_with fail
  have T0 := Lib.hid (Below.refl w.heap.size w)
  have L_0 := Lib.hid (HR.out)
  have hb : Gr w (w.alloc (.cells (encO o) 26)) := Gr.one _ _
  have T1 := Lib.hid (T0.out.trans (hb.below.mono T0.out.size))
  have L_1 := Lib.hid (L_0.out.keep hb.below)
  clear T0 L_0
  have O_1 := Lib.hid (Bx.made w o 26)
  clear hb
  generalize (w.alloc (.cells (encO o) 26)) = w1 at *
  refine (head_any _ (HL.out.keep T1.out)).mono ?_
  rintro e w2 ⟨rfl, hb⟩
  have T2 := Lib.hid (T1.out.trans (hb.mono T1.out.size))
  have L_2 := Lib.hid (L_1.out.keep hb)
  have O_2 := Lib.hid (O_1.out.keep hb)
  clear T1 L_1 O_1
  clear hb
  obtain ⟨_, ⟨q0, q1, q2, q3, q4, q5⟩, _⟩ := O_2.out
  go_wp2_with fail
  refine (few_at HF1.out _ L_2.out).mono ?_
  rintro e _ ⟨rfl, rfl⟩
  clear q0 q1 q2 q3 q4 q5
  obtain ⟨_, ⟨q0, q1, q2, q3, q4, q5⟩, _⟩ := O_2.out
  go_wp2_with fail
  have hb : Gr w2 (w2.alloc (.cells #[.string o.id, .string o.pn, .string o.fr, .string o.to, .int .i64 o.pf, .int .i64 o.pu] 26)) := Gr.one _ _
  clear q0 q1 q2 q3 q4 q5
  have T3 := Lib.hid (T2.out.trans (hb.below.mono T2.out.size))
  have L_3 := Lib.hid (L_2.out.keep hb.below)
  have O_3 := Lib.hid (O_2.out.keep hb.below)
  clear T2 L_2 O_2
  have R_3 := Lib.hid (RdO.one w2 o)
  clear hb
  generalize (w2.alloc (.cells #[.string o.id, .string o.pn, .string o.fr, .string o.to, .int .i64 o.pf, .int .i64 o.pu] 26)) = w3 at *
  refine (few_n _ _ _ _ _ HF2.out R_3.out rfl).mono ?_
  rintro e _ ⟨rfl, rfl⟩
  clear R_3
  obtain ⟨_, ⟨q0, q1, q2, q3, q4, q5⟩, _⟩ := O_3.out
  go_wp2_with fail
  refine (short_at HSH.out _ (by simp) (by simp)).mono ?_
  rintro e _ ⟨rfl, rfl⟩
  have hb : Gr w3 (w3.alloc (.cells #[.string pn, .string door] 9)) := Gr.one _ _
  clear q0 q1 q2 q3 q4 q5
  have T4 := Lib.hid (T3.out.trans (hb.below.mono T3.out.size))
  have L_4 := Lib.hid (L_3.out.keep hb.below)
  have O_4 := Lib.hid (O_3.out.keep hb.below)
  clear T3 L_3 O_3
  clear hb
  generalize (w3.alloc (.cells #[.string pn, .string door] 9)) = w4 at *
  obtain ⟨_, ⟨q0, q1, q2, q3, q4, q5⟩, _⟩ := O_4.out
  go_wp2_with fail
  go_ret
  exact ⟨rfl, T4.out⟩
set_option maxRecDepth 100000 in
set_option maxHeartbeats 16000000 in
theorem match_all (A : Option Addr) (c : Nat) (l : List Ord) (pn door : ByteArray) (day : Int) (o : Ord) (s : ByteArray) (w : World) (HL : Hid (LaidT w)) (HR : Hid (RdO w A l)) (HF1 : Hid (fewB l = true)) (HF2 : Hid (fewB [o] = true)) (HSH : Hid (shB pn door = true)) (hs : s.size ≤ 300) (t T : ByteArray) (X : List ByteArray) (er g k : Int) (p : Ord) (pb : Bool) (HXL : Hid (X.length ≤ 1000)) (HS1 : Hid (∀ W, LaidT W → RdO W A l → Calls Tryd.prog 12 #[.slice A l.length c, .string pn, .string door, .int .i64 day] W (SG t X er W))) (HS2 : Hid (∀ W, LaidT W → RdO W A l → Calls Tryd.prog 13 #[.slice A l.length c, .string pn, .string door, .int .i64 day] W (SG t X er W))) (HT1 : Hid (∀ W, LaidT W → Calls Tryd.prog 14 #[.agg (encO o)] W fun e w' => e = .returned (.tuple #[.string T, .int .i64 g]) ∧ Below W.heap.size W w')) (HT2 : Hid (∀ W, LaidT W → Calls Tryd.prog 15 #[.agg (encO o)] W fun e w' => e = .returned (.tuple #[.string T, .int .i64 g]) ∧ Below W.heap.size W w')) (HP1 : Hid (∀ W, LaidT W → Calls Tryd.prog 16 #[.string s] W fun e w' => e = .returned (.tuple #[.agg (encO p), .int .i64 k]) ∧ Below W.heap.size W w')) (HP2 : Hid (∀ W, LaidT W → Calls Tryd.prog 17 #[.string s] W fun e w' => e = .returned (.tuple #[.agg (encO p), .int .i64 k]) ∧ Below W.heap.size W w')) (HPR1 : Hid (∀ W, RdO W A l → Calls Tryd.prog 18 #[.slice A l.length c] W fun e w' => e = .returned (.bool pb) ∧ Below W.heap.size W w')) (HPR2 : Hid (∀ W, RdO W A l → Calls Tryd.prog 19 #[.slice A l.length c] W fun e w' => e = .returned (.bool pb) ∧ Gr W w')) : Calls Tryd.prog 3 #[.slice A l.length c, .string pn, .string door, .int .i64 day, .agg (encO o), .string s] w (Yes w) := by
  go_enter Tryd.func3, Tryd.ntmps3
  go_wp2_with fail
  have T0 := Lib.hid (Below.refl w.heap.size w)
  have L_0 := Lib.hid (HR.out)
  have hb : Gr w (w.alloc (.cells (encO o) 26)) := Gr.one _ _
  have T1 := Lib.hid (T0.out.trans (hb.below.mono T0.out.size))
  have L_1 := Lib.hid (L_0.out.keep hb.below)
  clear T0 L_0
  have O_1 := Lib.hid (Bx.made w o 26)
  clear hb
  generalize (w.alloc (.cells (encO o) 26)) = w1 at *
  refine (head_any _ (HL.out.keep T1.out)).mono ?_
  rintro e w2 ⟨rfl, hb⟩
  have T2 := Lib.hid (T1.out.trans (hb.mono T1.out.size))
  have L_2 := Lib.hid (L_1.out.keep hb)
  have O_2 := Lib.hid (O_1.out.keep hb)
  clear T1 L_1 O_1
  clear hb
  obtain ⟨_, ⟨q0, q1, q2, q3, q4, q5⟩, _⟩ := O_2.out
  go_wp2_with fail
  refine (few_at HF1.out _ L_2.out).mono ?_
  rintro e _ ⟨rfl, rfl⟩
  clear q0 q1 q2 q3 q4 q5
  obtain ⟨_, ⟨q0, q1, q2, q3, q4, q5⟩, _⟩ := O_2.out
  go_wp2_with fail
  have hb : Gr w2 (w2.alloc (.cells #[.string o.id, .string o.pn, .string o.fr, .string o.to, .int .i64 o.pf, .int .i64 o.pu] 26)) := Gr.one _ _
  clear q0 q1 q2 q3 q4 q5
  have T3 := Lib.hid (T2.out.trans (hb.below.mono T2.out.size))
  have L_3 := Lib.hid (L_2.out.keep hb.below)
  have O_3 := Lib.hid (O_2.out.keep hb.below)
  clear T2 L_2 O_2
  have R_3 := Lib.hid (RdO.one w2 o)
  clear hb
  generalize (w2.alloc (.cells #[.string o.id, .string o.pn, .string o.fr, .string o.to, .int .i64 o.pf, .int .i64 o.pu] 26)) = w3 at *
  refine (few_n _ _ _ _ _ HF2.out R_3.out rfl).mono ?_
  rintro e _ ⟨rfl, rfl⟩
  clear R_3
  obtain ⟨_, ⟨q0, q1, q2, q3, q4, q5⟩, _⟩ := O_3.out
  go_wp2_with fail
  refine (short_at HSH.out _ (by simp) (by simp)).mono ?_
  rintro e _ ⟨rfl, rfl⟩
  have hb : Gr w3 (w3.alloc (.cells #[.string pn, .string door] 9)) := Gr.one _ _
  clear q0 q1 q2 q3 q4 q5
  have T4 := Lib.hid (T3.out.trans (hb.below.mono T3.out.size))
  have L_4 := Lib.hid (L_3.out.keep hb.below)
  have O_4 := Lib.hid (O_3.out.keep hb.below)
  clear T3 L_3 O_3
  clear hb
  generalize (w3.alloc (.cells #[.string pn, .string door] 9)) = w4 at *
  obtain ⟨_, ⟨q0, q1, q2, q3, q4, q5⟩, _⟩ := O_4.out
  go_wp2_with fail
  refine (HS1.out _ (HL.out.keep T4.out) L_4.out).mono ?_
  rintro e w5 ⟨A1, n1, c1, rfl, hn1, hX, hb⟩
  clear q0 q1 q2 q3 q4 q5
  have T5 := Lib.hid (T4.out.trans (hb.mono T4.out.size))
  have L_5 := Lib.hid (L_4.out.keep hb)
  have O_5 := Lib.hid (O_4.out.keep hb)
  clear T4 L_4 O_4
  clear hb
  have X_5 := Lib.hid (hX)
  have HN1 := Lib.hid hn1
  clear hX hn1
  obtain ⟨_, ⟨q0, q1, q2, q3, q4, q5⟩, _⟩ := O_5.out
  go_wp2_with fail
  refine (HS2.out _ (HL.out.keep T5.out) L_5.out).mono ?_
  rintro e w6 ⟨A2, n2, c2, rfl, hn2, hX, hb⟩
  clear q0 q1 q2 q3 q4 q5
  have T6 := Lib.hid (T5.out.trans (hb.mono T5.out.size))
  have L_6 := Lib.hid (L_5.out.keep hb)
  have O_6 := Lib.hid (O_5.out.keep hb)
  have X_6 := Lib.hid (X_5.out.keep hb)
  clear T5 L_5 O_5 X_5
  clear hb
  have Y_6 := Lib.hid (hX)
  have HN2 := Lib.hid hn2
  clear hX hn2
  obtain ⟨_, ⟨q0, q1, q2, q3, q4, q5⟩, _⟩ := O_6.out
  go_wp2_with fail
  refine (HT1.out _ (HL.out.keep T6.out)).mono ?_
  rintro e w7 ⟨rfl, hb⟩
  clear q0 q1 q2 q3 q4 q5
  have T7 := Lib.hid (T6.out.trans (hb.mono T6.out.size))
  have L_7 := Lib.hid (L_6.out.keep hb)
  have O_7 := Lib.hid (O_6.out.keep hb)
  have X_7 := Lib.hid (X_6.out.keep hb)
  have Y_7 := Lib.hid (Y_6.out.keep hb)
  clear T6 L_6 O_6 X_6 Y_6
  clear hb
  obtain ⟨_, ⟨q0, q1, q2, q3, q4, q5⟩, _⟩ := O_7.out
  go_wp2_with fail
  refine (HT2.out _ (HL.out.keep T7.out)).mono ?_
  rintro e w8 ⟨rfl, hb⟩
  clear q0 q1 q2 q3 q4 q5
  have T8 := Lib.hid (T7.out.trans (hb.mono T7.out.size))
  have L_8 := Lib.hid (L_7.out.keep hb)
  have O_8 := Lib.hid (O_7.out.keep hb)
  have X_8 := Lib.hid (X_7.out.keep hb)
  have Y_8 := Lib.hid (Y_7.out.keep hb)
  clear T7 L_7 O_7 X_7 Y_7
  clear hb
  obtain ⟨_, ⟨q0, q1, q2, q3, q4, q5⟩, _⟩ := O_8.out
  go_wp2_with fail
  refine (HP1.out _ (HL.out.keep T8.out)).mono ?_
  rintro e w9 ⟨rfl, hb⟩
  clear q0 q1 q2 q3 q4 q5
  have T9 := Lib.hid (T8.out.trans (hb.mono T8.out.size))
  have L_9 := Lib.hid (L_8.out.keep hb)
  have O_9 := Lib.hid (O_8.out.keep hb)
  have X_9 := Lib.hid (X_8.out.keep hb)
  have Y_9 := Lib.hid (Y_8.out.keep hb)
  clear T8 L_8 O_8 X_8 Y_8
  clear hb
  obtain ⟨_, ⟨q0, q1, q2, q3, q4, q5⟩, _⟩ := O_9.out
  go_wp2_with fail
  have hb : Gr w9 (w9.alloc (.cells #[.string p.id, .string p.pn, .string p.fr, .string p.to, .int .i64 p.pf, .int .i64 p.pu] 26)) := Gr.one _ _
  clear q0 q1 q2 q3 q4 q5
  have T10 := Lib.hid (T9.out.trans (hb.below.mono T9.out.size))
  have L_10 := Lib.hid (L_9.out.keep hb.below)
  have O_10 := Lib.hid (O_9.out.keep hb.below)
  have X_10 := Lib.hid (X_9.out.keep hb.below)
  have Y_10 := Lib.hid (Y_9.out.keep hb.below)
  clear T9 L_9 O_9 X_9 Y_9
  have P_10 : Hid (Bx (w9.alloc (.cells #[.string p.id, .string p.pn, .string p.fr, .string p.to, .int .i64 p.pf, .int .i64 p.pu] 26)) w9.heap.size p) := Lib.hid (Bx.made w9 p 26)
  clear hb
  generalize (w9.alloc (.cells #[.string p.id, .string p.pn, .string p.fr, .string p.to, .int .i64 p.pf, .int .i64 p.pu] 26)) = w10 at *
  refine (HP2.out _ (HL.out.keep T10.out)).mono ?_
  rintro e w11 ⟨rfl, hb⟩
  have T11 := Lib.hid (T10.out.trans (hb.mono T10.out.size))
  have L_11 := Lib.hid (L_10.out.keep hb)
  have O_11 := Lib.hid (O_10.out.keep hb)
  have X_11 := Lib.hid (X_10.out.keep hb)
  have Y_11 := Lib.hid (Y_10.out.keep hb)
  have P_11 := Lib.hid (P_10.out.keep hb)
  clear T10 L_10 O_10 X_10 Y_10 P_10
  clear hb
  obtain ⟨_, ⟨q0, q1, q2, q3, q4, q5⟩, _⟩ := O_11.out
  obtain ⟨_, ⟨p0, p1, p2, p3, p4, p5⟩, _⟩ := P_11.out
  go_wp2_with fail
  have hb : Gr w11 (w11.alloc (.cells #[.string p.id, .string p.pn, .string p.fr, .string p.to, .int .i64 p.pf, .int .i64 p.pu] 26)) := Gr.one _ _
  clear q0 q1 q2 q3 q4 q5 p0 p1 p2 p3 p4 p5
  have T12 := Lib.hid (T11.out.trans (hb.below.mono T11.out.size))
  have L_12 := Lib.hid (L_11.out.keep hb.below)
  have O_12 := Lib.hid (O_11.out.keep hb.below)
  have X_12 := Lib.hid (X_11.out.keep hb.below)
  have Y_12 := Lib.hid (Y_11.out.keep hb.below)
  have P_12 := Lib.hid (P_11.out.keep hb.below)
  clear T11 L_11 O_11 X_11 Y_11 P_11
  have Q_12 : Hid (Bx (w11.alloc (.cells #[.string p.id, .string p.pn, .string p.fr, .string p.to, .int .i64 p.pf, .int .i64 p.pu] 26)) w11.heap.size p) := Lib.hid (Bx.made w11 p 26)
  clear hb
  generalize (w11.alloc (.cells #[.string p.id, .string p.pn, .string p.fr, .string p.to, .int .i64 p.pf, .int .i64 p.pu] 26)) = w12 at *
  refine (HPR1.out _ L_12.out).mono ?_
  rintro e w13 ⟨rfl, hb⟩
  have T13 := Lib.hid (T12.out.trans (hb.mono T12.out.size))
  have L_13 := Lib.hid (L_12.out.keep hb)
  have O_13 := Lib.hid (O_12.out.keep hb)
  have X_13 := Lib.hid (X_12.out.keep hb)
  have Y_13 := Lib.hid (Y_12.out.keep hb)
  have P_13 := Lib.hid (P_12.out.keep hb)
  have Q_13 := Lib.hid (Q_12.out.keep hb)
  clear T12 L_12 O_12 X_12 Y_12 P_12 Q_12
  clear hb
  obtain ⟨_, ⟨q0, q1, q2, q3, q4, q5⟩, _⟩ := O_13.out
  obtain ⟨_, ⟨p0, p1, p2, p3, p4, p5⟩, _⟩ := P_13.out
  obtain ⟨_, ⟨r0, r1, r2, r3, r4, r5⟩, _⟩ := Q_13.out
  go_wp2_with fail
  refine (HPR2.out _ L_13.out).mono ?_
  rintro e w14 ⟨rfl, hb⟩
  replace hb := hb.below
  clear q0 q1 q2 q3 q4 q5 p0 p1 p2 p3 p4 p5 r0 r1 r2 r3 r4 r5
  have T14 := Lib.hid (T13.out.trans (hb.mono T13.out.size))
  have L_14 := Lib.hid (L_13.out.keep hb)
  have O_14 := Lib.hid (O_13.out.keep hb)
  have X_14 := Lib.hid (X_13.out.keep hb)
  have Y_14 := Lib.hid (Y_13.out.keep hb)
  have P_14 := Lib.hid (P_13.out.keep hb)
  have Q_14 := Lib.hid (Q_13.out.keep hb)
  clear T13 L_13 O_13 X_13 Y_13 P_13 Q_13
  clear hb
  obtain ⟨_, ⟨q0, q1, q2, q3, q4, q5⟩, _⟩ := O_14.out
  obtain ⟨_, ⟨p0, p1, p2, p3, p4, p5⟩, _⟩ := P_14.out
  obtain ⟨_, ⟨r0, r1, r2, r3, r4, r5⟩, _⟩ := Q_14.out
  go_wp2_with fail
  refine (texts_n _ X_14.out Y_14.out HXL.out HN1.out HN2.out).mono ?_
  rintro e w15 ⟨rfl, hb⟩
  replace hb := hb.below
  clear q0 q1 q2 q3 q4 q5 p0 p1 p2 p3 p4 p5 r0 r1 r2 r3 r4 r5
  have T15 := Lib.hid (T14.out.trans (hb.mono T14.out.size))
  have L_15 := Lib.hid (L_14.out.keep hb)
  have O_15 := Lib.hid (O_14.out.keep hb)
  have X_15 := Lib.hid (X_14.out.keep hb)
  have Y_15 := Lib.hid (Y_14.out.keep hb)
  have P_15 := Lib.hid (P_14.out.keep hb)
  have Q_15 := Lib.hid (Q_14.out.keep hb)
  clear T14 L_14 O_14 X_14 Y_14 P_14 Q_14
  clear hb
  obtain ⟨_, ⟨q0, q1, q2, q3, q4, q5⟩, _⟩ := O_15.out
  obtain ⟨_, ⟨p0, p1, p2, p3, p4, p5⟩, _⟩ := P_15.out
  obtain ⟨_, ⟨r0, r1, r2, r3, r4, r5⟩, _⟩ := Q_15.out
  go_wp2_with fail
  go_ret
  exact ⟨rfl, T15.out⟩
theorem match_walk (A : Option Addr) (l : List Ord) (c : Nat) (pn door : ByteArray) (day : Int) (o : Ord) (s : ByteArray) (w : World) (hL : LaidT w) (hR : RdO w A l) : Calls Tryd.prog 3 #[.slice A l.length c, .string pn, .string door, .int .i64 day, .agg (encO o), .string s] w (Yes w) := by
  have HL := Lib.hid hL
  have HR := Lib.hid hR
  cases hf : fewB l
  · exact match_few1 A c l pn door day o s w HL HR (Lib.hid hf)
  cases hf2 : fewB [o]
  · exact match_few2 A c l pn door day o s w HL HR (Lib.hid hf) (Lib.hid hf2)
  cases hsh : shB pn door
  · exact match_short A c l pn door day o s w HL HR (Lib.hid hf) (Lib.hid hf2) (Lib.hid hsh)
  by_cases hs : 300 < s.size
  · exact match_long A c l pn door day o s w HL HR (Lib.hid hf) (Lib.hid hf2) (Lib.hid hsh) hs
  have hs' : s.size ≤ 300 := by omega
  have zz : pn.size ≤ 60 ∧ door.size ≤ 60 := of_decide_eq_true hsh
  have hl := few_len hf
  have sm : ∀ o ∈ l, Small o := fun o ho => by have k := few_mem hf ho; exact ⟨by omega, by omega, by omega, by omega⟩
  have so : Small o := by have k := few_mem hf2 (o := o) (by simp); exact ⟨by omega, by omega, by omega, by omega⟩
  have PR1 := Lib.hid (fun W (h : RdO W A l) => proper_list A c l W h (by omega) sm)
  have PR2 := Lib.hid (fun W (h : RdO W A l) => rproper_list A c l W h (by omega) sm)
  obtain ⟨t, X, er, hX, S1, S2⟩ : ∃ t X er, X.length ≤ 1000 ∧ (∀ W, LaidT W → RdO W A l → Calls Tryd.prog 12 #[.slice A l.length c, .string pn, .string door, .int .i64 day] W (SG t X er W)) ∧ (∀ W, LaidT W → RdO W A l → Calls Tryd.prog 13 #[.slice A l.length c, .string pn, .string door, .int .i64 day] W (SG t X er W)) := by
    cases ha : argB l pn door day
    · refine ⟨⟨#[]⟩, [], 1, by simp, fun W hL hr => ?_, fun W hL hr => ?_⟩
      · refine (settle_no A c l pn door day W hL.1 hr (by omega) sm (by omega) (by omega) ha).mono ?_
        rintro e w' ⟨rfl, hb⟩
        exact ⟨none, 0, 0, rfl, rfl, Or.inl rfl, hb⟩
      · refine (rsettle_no A c l pn door day W hr hf (by omega) (by omega) ha).mono ?_
        rintro e w' ⟨rfl, hb⟩
        exact ⟨none, 0, 0, rfl, rfl, Or.inl rfl, hb⟩
    · have EX : ∃ way t, Ends Ord.fr Ord.to nwB (cntO pn day l) door way t := ends_ex pn day l door
      obtain ⟨way, t, hE⟩ := EX
      refine ⟨t, ids way, 0, by have := way_len hE; simp [ids]; omega, fun W hL hr => ?_, fun W hL hr => ?_⟩
      · refine (settle_w A c l pn door day W hL.1 hr hf ha).mono ?_
        rintro e w' ⟨way', t', B, cc, rfl, hE', _, hR, hb⟩
        obtain ⟨rfl, rfl⟩ := ends_uniq Ord.fr Ord.to nwB (own_cnt pn day l) hE hE'
        exact ⟨B, way.length, cc, rfl, by simp [ids], hR, hb⟩
      · refine (rsettle_yes A c l pn door day W hr hf (by omega) (by omega) ha).mono ?_
        rintro e w' ⟨way', t', B, cc, rfl, hE', _, hR, hb⟩
        obtain ⟨rfl, rfl⟩ := ends_uniq Ord.fr Ord.to nwB (own_cnt pn day l) hE hE'
        exact ⟨B, way.length, cc, rfl, by simp [ids], hR, hb⟩
  obtain ⟨T, g, T1, T2⟩ : ∃ T g, (∀ W, LaidT W → Calls Tryd.prog 14 #[.agg (encO o)] W fun e w' => e = .returned (.tuple #[.string T, .int .i64 g]) ∧ Below W.heap.size W w') ∧ (∀ W, LaidT W → Calls Tryd.prog 15 #[.agg (encO o)] W fun e w' => e = .returned (.tuple #[.string T, .int .i64 g]) ∧ Below W.heap.size W w') := by
    cases ho : oneB o
    · exact ⟨⟨#[]⟩, 1, fun W hL => otext_no o W so ho, fun W hL => rotext_no o W so ho⟩
    · exact ⟨⟨(otxt o).toArray⟩, 0, fun W hL => otext_yes o W hL.1 ho, fun W hL => rotext_yes o W ho⟩
  obtain ⟨p, k, P1, P2⟩ : ∃ p k, (∀ W, LaidT W → Calls Tryd.prog 16 #[.string s] W fun e w' => e = .returned (.tuple #[.agg (encO p), .int .i64 k]) ∧ Below W.heap.size W w') ∧ (∀ W, LaidT W → Calls Tryd.prog 17 #[.string s] W fun e w' => e = .returned (.tuple #[.agg (encO p), .int .i64 k]) ∧ Below W.heap.size W w') := by
    by_cases hx : ∃ p, oneB p = true ∧ s.data.toList = otxt p
    · obtain ⟨p, hp, ht⟩ := hx
      refine ⟨p, 0, fun W hL => fparse_yes s p W hL hp hs' ht, fun W hL => ?_⟩
      refine (rfparse_any s W hs').mono ?_
      rintro e w' ⟨hb, ⟨q, hq, hqt, he⟩ | ⟨hn, _⟩⟩
      · rw [otxt_inj hp hq (ht.symm.trans hqt)]; exact ⟨he, hb⟩
      · exact absurd ht (hn p hp)
    · refine ⟨zeroO, 5, fun W hL => fparse_no s W hL hs' (fun p x y => hx ⟨p, x, y⟩), fun W hL => ?_⟩
      refine (rfparse_any s W hs').mono ?_
      rintro e w' ⟨hb, ⟨q, hq, hqt, _⟩ | ⟨_, he⟩⟩
      · exact absurd ⟨q, hq, hqt⟩ hx
      · exact ⟨he, hb⟩
  exact match_all A c l pn door day o s w HL HR (Lib.hid hf) (Lib.hid hf2) (Lib.hid hsh) hs' t T X er g k p (prpL l) (Lib.hid hX) (Lib.hid S1) (Lib.hid S2) (Lib.hid T1) (Lib.hid T2) (Lib.hid P1) (Lib.hid P2) PR1 PR2
end Go.Proofs.YtngbkdnkpolbfaaDoor
