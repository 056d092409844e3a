/- The walk of the law DateUnion. Under the condition that the tables lie in memory as the program lays them. -/
import Derived.Test.YtjebbmnjegndkaaDoorM
import Derived.Test.YtjebbmnjegndkaaDoorO
import Derived.Test.YtjebbmnjegndkaaDoorUnB
import Derived.Deep.RegionHeld3
import Derived.Deep.AppendLies
namespace Go.Proofs.YtjebbmnjegndkaaDoor
open Go.RowKit

set_option maxHeartbeats 1000000 in
set_option maxRecDepth 100000 in
theorem union_long (A : Option Addr) (n c : Nat) (d : Int) (w : World) (hL : Laid w) (h : 30 < n) : Calls Tryd.prog 7 #[.slice A n c, .int .i64 d] w (Yes w) := by
  have hn : (30 : Int) < (n : Int) := by omega
  go_enter Tryd.func7, Tryd.ntmps7
  go_wp2_with fail
  refine (head_any _ hL).mono ?_
  rintro e w1 ⟨rfl, hb⟩
  go_wp2_with fail
  go_ret
  exact ⟨rfl, hb⟩

set_option maxHeartbeats 4000000 in
set_option maxRecDepth 100000 in
theorem union_law_bad (A : Option Addr) (c : Nat) (l : List (Int × Int)) (d : Int) (w : World) (hL : Laid w) (hR : Rd w A l) (h : l.length ≤ 30) (hp : (l.any fun x => !prp x) = true) : Calls Tryd.prog 7 #[.slice A l.length c, .int .i64 d] w (Yes w) := by
  have hn : decide ((30 : Int) < (l.length : Int)) = false := by simp; omega
  have HL := Lib.hid hL
  have HR := Lib.hid hR
  have HP := Lib.hid hp
  clear hL hR hp
  go_enter Tryd.func7, Tryd.ntmps7
  go_wp2_with fail
  refine (head_any _ HL.out).mono ?_
  rintro e w1 ⟨rfl, hb⟩
  have B1 := Lib.hid hb
  clear hb
  go_wp2_with fail
  refine (union_bad' A c l _ (by omega) HP.out (HR.out.keep B1.out)).mono ?_
  rintro e w2 ⟨rfl, hb⟩
  have B2 := Lib.hid (B1.out.trans (hb.mono B1.out.size))
  have HR2 := Lib.hid (HR.out.keep B2.out)
  clear hb B1 HL HR
  go_wp2_with fail
  go_loopw [8, 9] (fun a i wr => ∃ (k : Nat) (b : Bool), k ≤ l.length ∧ i = .int .i64 k ∧ a = .bool b ∧ Hid (∀ j (hj : j < l.length), j < k → prp l[j] = true) ∧ Hid (Gr w2 wr)) (fun _ i _ => l.length - (intOf i).toNat)
  case atStart => exact ⟨0, false, Nat.zero_le _, rfl, rfl, fun j hj h0 => absurd h0 (by omega), Gr.refl _⟩
  case round =>
    obtain ⟨k, b, hk, rfl, rfl, hq, hg⟩ := hrel
    by_cases hlt : k < l.length
    · rcases HR2.out with hA | ⟨bl, off, rfl, hbl, hca⟩
      · rw [hA] at hlt; simp at hlt
      obtain ⟨x0, x1⟩ := hca k hlt
      replace x0 := hg.out.cell hbl x0
      replace x1 := hg.out.cell hbl x1
      have C1 := Lib.hid (fun W => proper_any l[k].1 l[k].2 W)
      have C2 := Lib.hid (fun W => covers_any l[k].1 l[k].2 d W)
      have HPK := Lib.hid (show prp (l[k].1, l[k].2) = prp l[k] from rfl)
      generalize hf : l[k].1 = f at *
      generalize hu : l[k].2 = u at *
      clear hca hf hu
      cases hpk : prp (f, u) with
      | false =>
        rw [hpk] at C1
        clear hpk
        go_wp2_with fail
        refine (C1.out _).mono ?_
        rintro e w3 ⟨rfl, hg3⟩
        have B3 := Lib.hid (B2.out.trans ((hg.out.trans hg3).below.mono B2.out.size))
        clear hg3
        go_wp2_with fail
        go_ret
        exact ⟨rfl, B3.out⟩
      | true =>
        have HQ : Hid (∀ j (hj : j < l.length), j < k + 1 → prp l[j] = true) := fun j hj hjk => by
          by_cases e : j = k
          · subst e; rw [← HPK.out]; exact hpk
          · exact hq.out j hj (by omega)
        rw [hpk] at C1
        clear hpk HPK
        go_wp2_with fail
        refine (C1.out _).mono ?_
        rintro e w3 ⟨rfl, hg3⟩
        replace x0 := hg3.cell (by exact Nat.lt_of_lt_of_le hbl hg.out.size) x0
        replace x1 := hg3.cell (by exact Nat.lt_of_lt_of_le hbl hg.out.size) x1
        have HG3 : Hid (Gr w2 w3) := hg.out.trans hg3
        clear hg3
        cases b with
        | true =>
          go_wp2_with fail
          go_roundw
          case rel => exact ⟨k + 1, true, by omega, by go_num, rfl, HQ, HG3⟩
          case measure => simp [intOf]; omega
        | false =>
          generalize cov (f, u) d = cb at *
          go_wp2_with fail
          refine (C2.out _).mono ?_
          rintro e w4 ⟨rfl, hg4⟩
          have HG4 : Hid (Gr w2 w4) := HG3.out.trans hg4
          clear hg4
          go_wp2_with fail
          go_roundw
          case rel => exact ⟨k + 1, cb, by omega, by go_num, rfl, HQ, HG4⟩
          case measure => simp [intOf]; omega
    · exfalso
      obtain ⟨x, hx, hxp⟩ := List.any_eq_true.1 HP.out
      obtain ⟨j, hj, rfl⟩ := List.getElem_of_mem hx
      rw [hq.out j hj (by omega)] at hxp
      cases hxp
end Go.Proofs.YtjebbmnjegndkaaDoor
