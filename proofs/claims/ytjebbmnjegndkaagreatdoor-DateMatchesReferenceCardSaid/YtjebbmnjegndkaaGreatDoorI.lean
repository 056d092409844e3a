/- The contracts of Union at every list, and of Same. Under no condition. -/
import Derived.Test.YtjebbmnjegndkaaGreatDoorH
import Derived.Laws.StructEq
namespace Go.Proofs.YtjebbmnjegndkaaGreatDoor
open Go.RowKit Go.Shelf

theorem eq41 (a b c d : Int) (w : World) : (binOp .eql 38 (.agg #[.int .i64 a, .int .i64 b]) (.agg #[.int .i64 c, .int .i64 d])).run Tryz.prog w = .ok (.bool (a == c && b == d)) w := by
  have u3 := Tryz.underlying3
  have a3 := Tryz.isAgg3
  have z3 := Tryz.sizeOf3
  have hS : Tryz.prog.underlying 38 = some (.struct (Tryz.prog.fieldsOf 38)) := by kernel_rfl
  have hp : Tryz.prog.stoodInHeld 38 = false := by kernel_rfl
  rw [run_eql_struct, show (10000 : Nat) = 9999 + 1 from rfl, run_equalIn_agg w 9999 38 _ _ hS hp]
  simp only [Program.fieldsOf, Tryz.underlying38]
  go_simp
  by_cases h1 : a = c <;> by_cases h2 : b = d <;> simp [h1, h2]
theorem neq41 (a b c d : Int) (w : World) : (binOp .neq 38 (.agg #[.int .i64 a, .int .i64 b]) (.agg #[.int .i64 c, .int .i64 d])).run Tryz.prog w = .ok (.bool !(a == c && b == d)) w := by
  have u3 := Tryz.underlying3
  have a3 := Tryz.isAgg3
  have z3 := Tryz.sizeOf3
  have hS : Tryz.prog.underlying 38 = some (.struct (Tryz.prog.fieldsOf 38)) := by kernel_rfl
  have hp : Tryz.prog.stoodInHeld 38 = false := by kernel_rfl
  rw [run_neq_struct, show (10000 : Nat) = 9999 + 1 from rfl, run_equalIn_agg w 9999 38 _ _ hS hp]
  simp only [Program.fieldsOf, Tryz.underlying38]
  go_simp
  by_cases h1 : a = c <;> by_cases h2 : b = d <;> simp [h1, h2]

set_option maxHeartbeats 1000000 in
set_option maxRecDepth 100000 in
theorem same_yes (A B : Option Addr) (c d : Nat) (l : List (Int × Int)) (w : World) (h1 : l.length ≤ 1000) (hA : Rd w A l) (hB : Rd w B l) :
    Calls Tryz.prog 18 #[.slice A l.length c, .slice B l.length d] w fun e w' => e = .returned (.bool true) ∧ Gr w w' := by
  have nq41 := neq41
  have mixed : Tryz.prog.follows .mixedOrders = true := Tryz.sortP.mixed
  go_enter Tryz.func18, Tryz.ntmps18
  go_wp2_with fail
  go_loopw [5] (fun i wr => ∃ k : Nat, k ≤ l.length ∧ i = .int .i64 k ∧ Hid (Gr w wr)) (fun i _ => l.length - (intOf i).toNat)
  case atStart => exact ⟨0, Nat.zero_le _, rfl, Gr.refl _⟩
  case round =>
    obtain ⟨k, hk, rfl, hg⟩ := hrel
    by_cases hlt : k < l.length
    · rcases hA with hA | ⟨b, off, rfl, hb, hca⟩
      · rw [hA] at hlt; simp at hlt
      rcases hB with hB | ⟨b', off', rfl, hb', hcb⟩
      · rw [hB] at hlt; simp at hlt
      obtain ⟨x0, x1⟩ := hca k hlt
      obtain ⟨y0, y1⟩ := hcb k hlt
      have kb := fun (p : Addr) (hp : p.block < w.heap.size) => hg.out.below.cell (p := p) hp
      rw [← kb _ hb] at x0 x1
      rw [← kb _ hb'] at y0 y1
      clear kb hca hcb
      generalize l[k].1 = f at *
      generalize l[k].2 = u at *
      have hlt' : (k : Int) < (l.length : Int) := by omega
      go_wp2_with fail
      go_quiet (fail)
      have HG : Hid (Gr w (wr.drewN nq)) := hg.out.trans ⟨nq, #[], by rw [Sort.grow_empty]⟩
      go_wp2_with fail
      go_roundw
      case rel => exact ⟨k + 1, by omega, by go_num, HG⟩
      case measure => simp [intOf]; omega
    · obtain rfl : k = l.length := by omega
      go_wp2_with fail
      go_ret
      exact ⟨rfl, hg.out⟩

/-- what Union leaves -/
def UPost (l : List (Int × Int)) (w : World) (e : Ending) (w' : World) : Prop :=
  ∃ A c u, e = .returned (.tuple #[.slice A u.length c, .int .i64 0]) ∧ UnOf l u ∧ Rd w' A u ∧ Below w.heap.size w w'

theorem union_any (A : Option Addr) (c : Nat) (l : List (Int × Int)) (w : World) (h1 : l.length ≤ 1000) (hp : ∀ p ∈ l, prp p = true) (hR : Rd w A l) :
    Calls Tryz.prog 17 #[.slice A l.length c] w (UPost l w) := by
  rcases hR with rfl | ⟨b, off, rfl, hb, hc⟩
  · refine (union_none A c w).mono ?_
    rintro e w' ⟨rfl, hb⟩
    exact ⟨none, 0, [], rfl, ⟨trivial, fun d => rfl⟩, Or.inl rfl, hb⟩
  · rcases Nat.eq_zero_or_pos l.length with h0 | h0
    · obtain rfl : l = [] := List.eq_nil_of_length_eq_zero h0
      refine (union_none _ c w).mono ?_
      rintro e w' ⟨rfl, hb⟩
      exact ⟨none, 0, [], rfl, ⟨trivial, fun d => rfl⟩, Or.inl rfl, hb⟩
    · refine (union_some b off c l w h0 h1 hp hb hc).mono ?_
      rintro e w' ⟨v, u, rfl, hU, hown, hbw⟩
      obtain ⟨_, A, c', rfl, hR, _⟩ := Rd.of_own hown
      exact ⟨A, c', u, rfl, hU, hR, hbw⟩

set_option maxHeartbeats 1000000 in
theorem union_bad (b off c : Nat) (l : List (Int × Int)) (w : World) (h1 : l.length ≤ 1000) (hp : (l.any fun x => !prp x) = true) (hb : b < w.heap.size)
    (hc : ∀ j (h : j < l.length), w.cell? ⟨b, off + j * 2, none⟩ = some (.int .i64 l[j].1) ∧ w.cell? ⟨b, off + j * 2 + 1, none⟩ = some (.int .i64 l[j].2)) :
    Calls Tryz.prog 17 #[.slice (some ⟨b, off, none⟩) l.length c] w fun e w' => e = .returned (.tuple #[.slice none 0 0, .int .i64 1]) ∧ Below w.heap.size w w' := by
  have C1 := Lib.hid (has_any b off c l w h1 hb hc)
  rw [hp] at C1
  have hd : decide ((1000 : Int) < (l.length : Int)) = false := by simp; omega
  clear hc hp
  go_enter Tryz.func17, Tryz.ntmps17
  go_wp2_with fail
  refine C1.out.mono ?_
  rintro e w1 ⟨rfl, hb1⟩
  go_wp2_with fail
  go_ret2
  exact ⟨rfl, hb1⟩
theorem union_bad' (A : Option Addr) (c : Nat) (l : List (Int × Int)) (w : World) (h1 : l.length ≤ 1000) (hp : (l.any fun x => !prp x) = true) (hR : Rd w A l) :
    Calls Tryz.prog 17 #[.slice A l.length c] w fun e w' => e = .returned (.tuple #[.slice none 0 0, .int .i64 1]) ∧ Below w.heap.size w w' := by
  rcases hR with rfl | ⟨b, off, rfl, hb, hc⟩
  · simp at hp
  · exact union_bad b off c l w h1 hp hb hc
theorem UnOf.len {l u : List (Int × Int)} (h : UnOf l u) (hl : ∀ p ∈ l, prp p = true) : u.length ≤ l.length := by
  have hp := List.mergeSort_perm l (fun a b => decide (a.1 ≤ b.1))
  have hs := List.pairwise_mergeSort (le := fun a b : Int × Int => decide (a.1 ≤ b.1)) (fun a b c h1 h2 => by simp at *; omega) (fun a b => by simp; omega) l
  have g := UnOf.of_fold hp (hs.imp (fun h => by simpa using h)) hl
  rw [h.uniq g, List.length_reverse]
  have := fold_len (l.mergeSort fun a b => decide (a.1 ≤ b.1)) []
  rw [hp.length_eq] at this
  simpa using this
end Go.Proofs.YtjebbmnjegndkaaGreatDoor
