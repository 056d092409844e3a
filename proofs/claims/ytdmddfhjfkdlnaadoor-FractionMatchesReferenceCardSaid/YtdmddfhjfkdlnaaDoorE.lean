/- The contract of Of. Under no condition but the types' own ranges. -/
import Derived.Test.YtdmddfhjfkdlnaaDoorD
import Derived.Deep.RegionHeld3
import Derived.Deep.DeepCutAuto
namespace Go.Proofs.YtdmddfhjfkdlnaaDoor
open Go.RowKit

theorem Gr.cell {w w' : World} (h : Gr w w') {b o : Nat} {v : Value} (hb : b < w.heap.size) (hc : w.cell? ⟨b, o, none⟩ = some v) : w'.cell? ⟨b, o, none⟩ = some v := by
  rw [h.below.cell (p := ⟨b, o, none⟩) hb]; exact hc
theorem Gr.frozen {w w' : World} (h : Gr w w') {b o : Nat} (hb : b < w.heap.size) (hc : w.frozen? ⟨b, o, none⟩ = false) : w'.frozen? ⟨b, o, none⟩ = false := by
  rw [h.below.frozen (p := ⟨b, o, none⟩) hb]; exact hc
theorem Gr.size {w w' : World} (h : Gr w w') : w.heap.size ≤ w'.heap.size := h.below.size
theorem Gr.drewn (w : World) : Gr w w.drew := ⟨1, #[], by rw [Sort.grow_empty]; rfl⟩
/-- a block of two numbers that nobody has touched -/
def Blk (w : World) (b : Nat) (x y : Value) : Prop := b < w.heap.size ∧ w.cell? ⟨b, 0, none⟩ = some x ∧ w.cell? ⟨b, 1, none⟩ = some y ∧ w.frozen? ⟨b, 0, none⟩ = false ∧ w.frozen? ⟨b, 1, none⟩ = false
theorem Blk.keep {w w' : World} {b : Nat} {x y : Value} (h : Blk w b x y) (g : Gr w w') : Blk w' b x y :=
  ⟨Nat.lt_of_lt_of_le h.1 g.size, g.cell h.1 h.2.1, g.cell h.1 h.2.2.1, g.frozen h.1 h.2.2.2.1, g.frozen h.1 h.2.2.2.2⟩
theorem Blk.made (w : World) (x y : Value) (T : TypeId) : Blk (w.alloc (.cells #[x, y] T)) w.heap.size x y :=
  ⟨by simp, by simp, by simp, World.frozen?_alloc_at _ _ _ _ (by simp), World.frozen?_alloc_at _ _ _ _ (by simp)⟩

/-- what is returned for a number, or the error -/
def frE (e : Int) (r : Rat) : Value := .tuple #[.agg #[.int .i64 (if e = 0 then rN r else 0), .int .i64 (if e = 0 then rD r else 0)], .int .i64 (if e = 0 then rE r else e)]
abbrev fr (r : Rat) : Value := .tuple #[.agg #[.int .i64 (rN r), .int .i64 (rD r)], .int .i64 (rE r)]

set_option maxHeartbeats 1000000 in
theorem of_zero (n : Int) (w : World) : Calls Tryd.prog 10 #[.int .i64 n, .int .i64 0] w fun e w' => e = .returned (.tuple #[.agg #[.int .i64 0, .int .i64 0], .int .i64 14]) ∧ Gr w w' := by
  go_enter Tryd.func10, Tryd.ntmps10
  go_wp2_with fail
  exact bodyPost_ret (v := .tuple #[.agg #[.int .i64 0, .int .i64 0], .int .i64 14]) (by simp [results, Tryd.results10, go_sem]) rfl ⟨rfl, Gr.one _ _⟩

set_option maxHeartbeats 1000000 in
theorem of_some (n d : Int) (w : World) (h0 : -9223372036854775808 ≤ n) (h1 : n ≤ 9223372036854775807) (k0 : -9223372036854775808 ≤ d) (k1 : d ≤ 9223372036854775807) (hd : d ≠ 0) :
    Calls Tryd.prog 10 #[.int .i64 n, .int .i64 d] w fun e w' => e = .returned (fr (Rat.divInt n d)) ∧ Below w.heap.size w w' := by
  obtain ⟨t1, t2⟩ := of_terms n d hd
  obtain ⟨m1, m2, m3⟩ := md_eq t1 t2
  have b0 : (d == 0) = false := by simp [hd]
  have S1 := fun W => size_any n W h0 h1
  have S2 := fun W => size_any d W k0 k1
  have hg : 0 < Nat.gcd n.natAbs d.natAbs := Nat.gcd_pos_of_pos_right _ (by omega)
  have G := fun W => divisor_gr n.natAbs d.natAbs W (by omega) (by omega)
  have M := fun W => made_any (decide (n < 0) != decide (d < 0)) (n.natAbs / Nat.gcd n.natAbs d.natAbs) (d.natAbs / Nat.gcd n.natAbs d.natAbs) W (by have := Nat.div_le_self n.natAbs (Nat.gcd n.natAbs d.natAbs); omega) (by have := Nat.div_le_self d.natAbs (Nat.gcd n.natAbs d.natAbs); omega)
  unfold fr
  rw [m1, m2, m3] at M
  have q1 : IntKind.u64.wrap ((n.natAbs : Int) / ((Nat.gcd n.natAbs d.natAbs : Nat) : Int)) = ((n.natAbs / Nat.gcd n.natAbs d.natAbs : Nat) : Int) := by
    rw [← Int.natCast_ediv]; exact Mul64.wrapN _ (by have := Nat.div_le_self n.natAbs (Nat.gcd n.natAbs d.natAbs); omega)
  have q2 : IntKind.u64.wrap ((d.natAbs : Int) / ((Nat.gcd n.natAbs d.natAbs : Nat) : Int)) = ((d.natAbs / Nat.gcd n.natAbs d.natAbs : Nat) : Int) := by
    rw [← Int.natCast_ediv]; exact Mul64.wrapN _ (by have := Nat.div_le_self d.natAbs (Nat.gcd n.natAbs d.natAbs); omega)
  clear t1 t2 m1 m2 m3
  generalize n.natAbs / Nat.gcd n.natAbs d.natAbs = x at *
  generalize d.natAbs / Nat.gcd n.natAbs d.natAbs = y at *
  generalize Nat.gcd n.natAbs d.natAbs = g at *
  have bg : ((g : Int) == 0) = false := by simp; omega
  have bg1 : ¬ g = 0 := by omega
  have bg2 : ¬ (g : Int) = 0 := by omega
  generalize rN (Rat.divInt n d) = RN at *
  generalize rD (Rat.divInt n d) = RD at *
  generalize rE (Rat.divInt n d) = RE at *
  generalize n.natAbs = na at *
  generalize d.natAbs = da at *
  have HS1 := Lib.hid S1
  have HS2 := Lib.hid S2
  have HG := Lib.hid G
  have HM := Lib.hid M
  clear S1 S2 G M hd
  have q3 : IntKind.u64.wrap ((na : Int).tdiv (g : Int)) = (x : Int) := by rw [← q1]; rfl
  have q4 : IntKind.u64.wrap ((da : Int).tdiv (g : Int)) = (y : Int) := by rw [← q2]; rfl
  go_enter Tryd.func10, Tryd.ntmps10
  go_wp2_with fail
  have R0 := Lib.hid (Blk.made w (.int .i64 0) (.int .i64 0) 23)
  have GW := Lib.hid (Gr.one w (.cells #[.int .i64 0, .int .i64 0] 23))
  generalize w.alloc (.cells #[.int .i64 0, .int .i64 0] 23) = W at *
  refine (HS1.out _).mono ?_
  rintro e w' ⟨rfl, rfl⟩
  go_wp2_with fail
  refine (HS2.out _).mono ?_
  rintro e w' ⟨rfl, rfl⟩
  go_wp2_with fail
  refine (HG.out _).mono ?_
  rintro e w1 ⟨rfl, hg1⟩
  have GW1 := Lib.hid (GW.out.trans hg1)
  have R1 := Lib.hid (R0.out.keep hg1)
  clear hg1 GW R0
  go_wp2_with fail
  go_region_held3 (fun _ => True) (trivial) (first | (go_at_call_of 29 (Value.int IntKind.i64 n); refine (HS1.out _).mono ?_; rintro e w2 ⟨rfl, rfl⟩) | (go_at_call_of 29 (Value.int IntKind.i64 d); refine (HS2.out _).mono ?_; rintro e w2 ⟨rfl, rfl⟩) | (go_at_call 30; refine (HM.out _).mono ?_; rintro e w2 ⟨rfl, hg2⟩; (obtain ⟨r2s, r20, r21, f20, f21⟩ := R1.out.keep ((Gr.drewn _).trans hg2)); (have GW2 := Lib.hid (GW1.out.trans ((Gr.drewn _).trans hg2))); clear hg2))
  go_wp2_with fail
  refine bodyPost_ret (v := .tuple #[.agg #[.int .i64 RN, .int .i64 RD], .int .i64 RE]) (by simp [results, Tryd.results10, go_sem, *]) rfl ⟨rfl, ?_⟩
  exact (GW2.out.below.setCell (Nat.le_refl _) _).setCell (Nat.le_refl _) _
end Go.Proofs.YtdmddfhjfkdlnaaDoor
