/- The contracts of the functions on numbers of 128 bits. Under no condition but the types' own ranges. -/
import Derived.Test.YtdmddfhjfkdlnaaDoorCb
import Derived.Test.YtdmddfhjfkdlnaaDoorShA
import Derived.Shelf.Spec.BitsCarry
namespace Go.Proofs.YtdmddfhjfkdlnaaDoor
open Go.RowKit

theorem lz (y : Nat) (hy : y < 18446744073709551616) (W : World) : Calls Tryd.prog 62 #[.int .u64 y] W fun e w' => e = .returned (.int .i64 (64 - (Lib.bitLen y : Int))) ∧ W = w' :=
  (Tryd.bits_LeadingZeros64 (y : Int) W (by omega) (by omega)).mono fun _ _ ⟨he, hw⟩ => ⟨by simpa using he, hw.symm⟩
theorem div64 (hi lo y : Nat) (w : World) (hlo : lo < 18446744073709551616) (hy : y < 18446744073709551616) (h : hi < y) :
    Calls Tryd.prog 55 #[.int .u64 hi, .int .u64 lo, .int .u64 y] w fun e w' => e = .returned (.tuple #[.int .u64 (((hi * 18446744073709551616 + lo) / y : Nat) : Int), .int .u64 (((hi * 18446744073709551616 + lo) % y : Nat) : Int)]) ∧ Gr w w' :=
  (div64_any hi lo y w hlo hy h (lz y hy)).mono fun _ _ ⟨he, n, hw⟩ => ⟨he, by rw [hw]; exact Gr.drewN _ _⟩
theorem add64_run (x y c : Nat) (hx : x < 18446744073709551616) (hy : y < 18446744073709551616) (hc : c ≤ 1) (w : World) :
    (callFunc 53 #[.int .u64 x, .int .u64 y, .int .u64 c]).run Tryd.prog w =
      .ok (.value (.tuple #[.int .u64 (((x + y + c) % 18446744073709551616 : Nat) : Int), .int .u64 (((x + y + c) / 18446744073709551616 : Nat) : Int)])) w := by
  rw [run_callFunc_extern Tryd.func53 (by kernel_rfl) (by kernel_rfl) (by kernel_rfl) (e := add64Entry) (by kernel_rfl), run_add64 x y c (by omega) (by omega) (by omega) (by omega)]
  simp only [Result.andThen]
  congr 5 <;> omega
theorem sub64_run (x y b : Nat) (hb : b ≤ 1) (w : World) :
    (callFunc 54 #[.int .u64 x, .int .u64 y, .int .u64 b]).run Tryd.prog w =
      .ok (.value (.tuple #[.int .u64 (((x + 18446744073709551616 - y - b) % 18446744073709551616 : Nat) : Int), .int .u64 ((if x < y + b then 1 else 0 : Nat) : Int)])) w := by
  rw [run_callFunc_extern Tryd.func54 (by kernel_rfl) (by kernel_rfl) (by kernel_rfl) (e := sub64Entry) (by kernel_rfl), run_sub64 x y b hb]
  rfl

/-- a number of 128 bits -/
abbrev wd (n : Nat) : Value := .agg #[.int .u64 ((n / 18446744073709551616 : Nat) : Int), .int .u64 ((n % 18446744073709551616 : Nat) : Int)]

set_option maxHeartbeats 400000 in
theorem times_any (a b : Nat) (w : World) (ha : a < 18446744073709551616) (hb : b < 18446744073709551616) :
    Calls Tryd.prog 33 #[.int .u64 a, .int .u64 b] w fun e w' => e = .returned (wd (a * b)) ∧ Gr w w' := by
  have M := fun W => Tryd.bits_Mul64 a b ha hb W
  unfold wd
  generalize a * b / 18446744073709551616 = p at *
  generalize a * b % 18446744073709551616 = q at *
  have HM := Lib.hid M
  clear ha hb M
  go_enter Tryd.func33, Tryd.ntmps33
  go_wp2_with fail
  refine (HM.out _).mono ?_
  rintro e w' ⟨rfl, hw⟩
  subst hw
  go_wp2_with fail
  exact bodyPost_ret (v := .agg #[.int .u64 (p : Int), .int .u64 (q : Int)]) (by simp [results, Tryd.results33, go_sem]) rfl ⟨rfl, Gr.one _ _⟩
set_option maxHeartbeats 400000 in
theorem less_any (a b : Nat) (w : World) :
    Calls Tryd.prog 35 #[wd a, wd b] w fun e w' => e = .returned (.bool (decide (a < b))) ∧ Gr w w' := by
  unfold wd
  obtain ⟨p, hp⟩ : ∃ p, a / 18446744073709551616 = p := ⟨_, rfl⟩
  obtain ⟨q, hq⟩ : ∃ p, a % 18446744073709551616 = p := ⟨_, rfl⟩
  obtain ⟨r, hr⟩ : ∃ p, b / 18446744073709551616 = p := ⟨_, rfl⟩
  obtain ⟨s, hs⟩ : ∃ p, b % 18446744073709551616 = p := ⟨_, rfl⟩
  rw [hp, hq, hr, hs]
  have hb : decide (a < b) = (decide (p < r) || ((p : Int) == (r : Int) && decide (q < s))) := by
    rw [Bool.eq_iff_iff]; simp only [decide_eq_true_eq, Bool.or_eq_true, Bool.and_eq_true, beq_iff_eq]; omega
  rw [hb]
  clear hp hq hr hs hb
  by_cases c : p < r
  · have d : decide (p < r) = true := decide_eq_true c
    have H := Lib.hid (show (decide (p < r) || ((p : Int) == (r : Int) && decide (q < s))) = true by simp [c])
    go_enter Tryd.func35, Tryd.ntmps35
    go_wp2_with fail
    go_ret
    exact ⟨by rw [H.out]; rfl, ((Gr.one _ _).alloc _)⟩
  · have d : decide (p < r) = false := decide_eq_false c
    by_cases c2 : (p : Int) = (r : Int)
    · have d2 : ((p : Int) == (r : Int)) = true := by simp [c2]
      have H := Lib.hid (show (decide (p < r) || ((p : Int) == (r : Int) && decide (q < s))) = decide (q < s) by simp [c2, c])
      clear c2
      go_enter Tryd.func35, Tryd.ntmps35
      go_wp2_with fail
      go_ret
      exact ⟨by rw [H.out]; rfl, ((Gr.one _ _).alloc _)⟩
    · have d2 : ((p : Int) == (r : Int)) = false := by simp only [beq_eq_false_iff_ne]; exact c2
      have H := Lib.hid (show (decide (p < r) || ((p : Int) == (r : Int) && decide (q < s))) = false by simp [d2, c])
      clear c2
      go_enter Tryd.func35, Tryd.ntmps35
      go_wp2_with fail
      go_ret
      exact ⟨by rw [H.out]; rfl, ((Gr.one _ _).alloc _)⟩

set_option maxHeartbeats 1000000 in
theorem plus_any (a b : Nat) (w : World) (ha : a < 170141183460469231731687303715884105728) (hb : b < 170141183460469231731687303715884105728) :
    Calls Tryd.prog 34 #[wd a, wd b] w fun e w' => e = .returned (wd (a + b)) ∧ Gr w w' := by
  unfold wd
  have h1 : (a % 18446744073709551616 + b % 18446744073709551616 + 0) / 18446744073709551616 ≤ 1 := by omega
  have e1 : (a % 18446744073709551616 + b % 18446744073709551616 + 0) % 18446744073709551616 = (a + b) % 18446744073709551616 := by omega
  have e2 : (a / 18446744073709551616 + b / 18446744073709551616 + (a % 18446744073709551616 + b % 18446744073709551616 + 0) / 18446744073709551616) % 18446744073709551616 = (a + b) / 18446744073709551616 := by omega
  have hp : a / 18446744073709551616 < 18446744073709551616 := by omega
  have hq : a % 18446744073709551616 < 18446744073709551616 := by omega
  have hr : b / 18446744073709551616 < 18446744073709551616 := by omega
  have hs : b % 18446744073709551616 < 18446744073709551616 := by omega
  generalize a / 18446744073709551616 = p at *
  generalize a % 18446744073709551616 = q at *
  generalize b / 18446744073709551616 = r at *
  generalize b % 18446744073709551616 = s at *
  have A1 : ∀ W, (callFunc 53 #[.int .u64 (q : Int), .int .u64 (s : Int), .int .u64 0]).run Tryd.prog W = _ := fun W => add64_run q s 0 hq hs (by omega) W
  generalize (q + s + 0) / 18446744073709551616 = c at *
  have A2 := fun W => add64_run p r c hp hr h1 W
  generalize (p + r + c) / 18446744073709551616 = z at *
  rw [e1] at A1
  rw [e2] at A2
  generalize (a + b) / 18446744073709551616 = x at *
  generalize (a + b) % 18446744073709551616 = y at *
  clear h1 e1 e2 hp hq hr hs ha hb
  go_enter Tryd.func34, Tryd.ntmps34
  go_wp2_with fail
  refine bodyPost_ret (v := .agg #[.int .u64 (x : Int), .int .u64 (y : Int)]) (by simp [results, Tryd.results34, go_sem]) rfl ⟨rfl, ?_⟩
  exact (((Gr.one _ _).alloc _).alloc _)

set_option maxHeartbeats 1000000 in
theorem minus_any (a b : Nat) (w : World) (ha : a < 340282366920938463463374607431768211456) (hb : b ≤ a) :
    Calls Tryd.prog 36 #[wd a, wd b] w fun e w' => e = .returned (wd (a - b)) ∧ Gr w w' := by
  unfold wd
  have h1 : (if a % 18446744073709551616 < b % 18446744073709551616 + 0 then 1 else 0 : Nat) ≤ 1 := by split <;> omega
  have e1 : (a % 18446744073709551616 + 18446744073709551616 - b % 18446744073709551616 - 0) % 18446744073709551616 = (a - b) % 18446744073709551616 := by omega
  have e2 : (a / 18446744073709551616 + 18446744073709551616 - b / 18446744073709551616 - (if a % 18446744073709551616 < b % 18446744073709551616 + 0 then 1 else 0 : Nat)) % 18446744073709551616 = (a - b) / 18446744073709551616 := by split <;> omega
  generalize a / 18446744073709551616 = p at *
  generalize a % 18446744073709551616 = q at *
  generalize b / 18446744073709551616 = r at *
  generalize b % 18446744073709551616 = s at *
  have A1 : ∀ W, (callFunc 54 #[.int .u64 (q : Int), .int .u64 (s : Int), .int .u64 0]).run Tryd.prog W = _ := fun W => sub64_run q s 0 (by omega) W
  generalize (if q < s + 0 then 1 else 0 : Nat) = c at *
  have A2 := fun W => sub64_run p r c h1 W
  generalize (if p < r + c then 1 else 0 : Nat) = z at *
  rw [e1] at A1
  rw [e2] at A2
  generalize (a - b) / 18446744073709551616 = x at *
  generalize (a - b) % 18446744073709551616 = y at *
  clear h1 e1 e2 ha hb
  go_enter Tryd.func36, Tryd.ntmps36
  go_wp2_with fail
  refine bodyPost_ret (v := .agg #[.int .u64 (x : Int), .int .u64 (y : Int)]) (by simp [results, Tryd.results36, go_sem]) rfl ⟨rfl, ?_⟩
  exact (((Gr.one _ _).alloc _).alloc _)
set_option maxHeartbeats 1000000 in
theorem over_any (a n : Nat) (w : World) (hn : n < 18446744073709551616) :
    Calls Tryd.prog 38 #[wd a, .int .u64 n] w fun e w' => e = .returned (.int .u64 (ov a n : Int)) ∧ Gr w w' := by
  have D := fun (h : a / 18446744073709551616 < n) W => div64 (a / 18446744073709551616) (a % 18446744073709551616) n W (by omega) hn h
  have ea : a / 18446744073709551616 * 18446744073709551616 + a % 18446744073709551616 = a := by omega
  rw [ea] at D
  unfold wd
  have ho : ov a n = if n ≤ a / 18446744073709551616 then 4611686018427387905 else a / n := rfl
  generalize a / 18446744073709551616 = p at *
  generalize a % 18446744073709551616 = q at *
  have HD := Lib.hid D
  clear D ea hn
  by_cases c : n ≤ p
  · have H := Lib.hid (show (ov a n : Int) = 4611686018427387905 by rw [ho, if_pos c]; rfl)
    have d : decide (n ≤ p) = true := decide_eq_true c
    clear ho
    go_enter Tryd.func38, Tryd.ntmps38
    go_wp2_with fail
    go_ret
    exact ⟨by rw [H.out]; rfl, Gr.one _ _⟩
  · have H := Lib.hid (show (ov a n : Int) = ((a / n : Nat) : Int) by rw [ho, if_neg c])
    have d : decide (n ≤ p) = false := decide_eq_false c
    clear ho
    generalize a / n = v at *
    generalize a % n = u at *
    go_enter Tryd.func38, Tryd.ntmps38
    go_wp2_with fail
    refine (HD.out (by omega) _).mono ?_
    rintro e w1 ⟨rfl, hg⟩
    have HG := Lib.hid hg
    clear hg
    go_wp2_with fail
    go_ret
    exact ⟨by rw [H.out]; rfl, (Gr.one _ _).trans HG.out⟩
set_option maxHeartbeats 400000 in
theorem rem64 (a n : Nat) (w : World) (hn : n < 18446744073709551616) (h0 : 0 < n) :
    Calls Tryd.prog 37 #[.int .u64 ((a / 18446744073709551616 : Nat) : Int), .int .u64 ((a % 18446744073709551616 : Nat) : Int), .int .u64 n] w fun e w' => e = .returned (.int .u64 ((a % n : Nat) : Int)) ∧ Gr w w' := by
  have D := fun W => div64 (a / 18446744073709551616 % n) (a % 18446744073709551616) n W (by omega) hn (Nat.mod_lt _ h0)
  have ea : (a / 18446744073709551616 % n * 18446744073709551616 + a % 18446744073709551616) % n = a % n := by
    rw [Nat.add_mod, Nat.mod_mul_mod, ← Nat.add_mod]; congr 1; omega
  rw [ea] at D
  generalize a / 18446744073709551616 = p at *
  generalize a % 18446744073709551616 = q at *
  generalize a % n = u at *
  generalize (p % n * 18446744073709551616 + q) / n = z at *
  have hc : ((p : Int) % (n : Int)) = ((p % n : Nat) : Int) := (Int.natCast_emod p n).symm
  have b0 : ((n : Int) == 0) = false := by simp; omega
  generalize p % n = v at *
  have HD := Lib.hid D
  clear D ea hn
  go_enter Tryd.func37, Tryd.ntmps37
  go_wp2_with fail
  refine (HD.out _).mono ?_
  rintro e w1 ⟨rfl, hg⟩
  have HG := Lib.hid hg
  clear hg
  go_wp2_with fail
  go_ret
  exact ⟨rfl, HG.out⟩
end Go.Proofs.YtdmddfhjfkdlnaaDoor
