/- The contract of the reference's less. Under no condition. -/
import Derived.Test.YtdmddfhjfkdlnaaDoorRa
namespace Go.Proofs.YtdmddfhjfkdlnaaDoor
open Go.RowKit

theorem drop_step (l : List Nat) (m : Nat) (h : m < l.length) : l = l.take m ++ l[m] :: l.drop (m + 1) := by
  rw [← List.drop_eq_getElem_cons h, List.take_append_drop]
/-- digits of one length that agree behind a place -/
theorem less_part (x y m : Nat) (hm : m < (bin x).length) (hm' : m < (bin y).length) (hl : (bin x).length = (bin y).length) (hd : (bin x).drop (m + 1) = (bin y).drop (m + 1)) (hne : (bin x)[m] ≠ (bin y)[m]) : decide ((bin x)[m] < (bin y)[m]) = decide (x < y) := by
  have e1 := drop_step (bin x) m hm
  have e2 := drop_step (bin y) m hm'
  have k := val_part ((bin x).take m) ((bin y).take m) ((bin y).drop (m + 1)) (bin x)[m] (bin y)[m] (by rw [List.length_take, List.length_take]; omega) ((bin_dg x).take m) ((bin_dg y).take m) (bin_dg x _ (List.getElem_mem _)) (bin_dg y _ (List.getElem_mem _)) hne
  rw [← e2, ← hd, ← e1, val_bin, val_bin] at k
  rw [decide_eq_decide]; exact k.symm
theorem less_len (x y : Nat) (h : (bin x).length ≠ (bin y).length) : decide ((bin x).length < (bin y).length) = decide (x < y) := by
  rw [decide_eq_decide]
  refine ⟨bin_len_lt, fun hlt => ?_⟩
  rcases Nat.lt_or_ge (bin x).length (bin y).length with c | c
  · exact c
  · have := bin_len_lt (x := y) (y := x) (by omega); omega

set_option maxHeartbeats 2000000 in
theorem less_any' (A B : Option Addr) (c c' : Nat) (x y : Nat) (w : World) (hr : RdN w A (bin x)) (hr' : RdN w B (bin y)) (hl : (bin x).length ≤ 1000) :
    Calls Tryd.prog 41 #[.slice A (bin x).length c, .slice B (bin y).length c'] w fun e w' => e = .returned (.bool (decide (x < y))) ∧ Gr w w' := by
  have HR := Lib.hid hr
  have HR' := Lib.hid hr'
  clear hr hr'
  by_cases hlen : (bin x).length = (bin y).length
  · have b1 : (((bin x).length : Int) != ((bin y).length : Int)) = false := by simp [hlen]
    have HLN := Lib.hid hlen
    have HP := Lib.hid (less_part x y)
    have HXY := Lib.hid (fun (h : (bin x).drop 0 = (bin y).drop 0) => bin_inj (x := x) (y := y) (by simpa using h))
    clear hlen
    generalize bin x = l at *
    generalize bin y = r at *
    go_enter Tryd.func41, Tryd.ntmps41
    go_wp2_with fail
    go_loopw [5] (fun t wr => ∃ k n : Nat, k ≤ l.length ∧ t = .int .i64 ((k : Int) - 1) ∧ Hid (l.drop k = r.drop k) ∧ wr = w.drewN n) (fun t _ => (intOf t + 1).toNat)
    case atStart => exact ⟨l.length, 0, Nat.le_refl _, rfl, Lib.hid (by rw [List.drop_length, HLN.out, List.drop_length]), rfl⟩
    case round =>
      obtain ⟨k, n, hk, rfl, HK, rfl⟩ := hrel
      rcases Nat.eq_zero_or_pos k with h0 | h0
      · subst h0
        have E := HXY.out HK.out
        have d1 : decide ((0 : Int) ≤ ((0 : Nat) : Int) - 1) = false := by decide
        go_wp2_with fail
        go_ret
        exact ⟨by rw [show decide (x < y) = false by simp; omega]; rfl, Gr.drewN _ _⟩
      · obtain ⟨m, rfl⟩ : ∃ m, k = m + 1 := ⟨k - 1, by omega⟩
        rcases HR.out with he | ⟨b, off, rfl, hlt, hcell⟩
        · exfalso; rw [he] at hk; simp at hk
        rcases HR'.out with he | ⟨b', off', rfl, hlt', hcell'⟩
        · exfalso; have hq := HLN.out; rw [he] at hq; simp at hq; rw [hq] at hk; simp at hk
        have hm := hcell m (by omega)
        have hmr : m < r.length := by have := HLN.out; omega
        have hml : m < l.length := by omega
        have hm' := hcell' m hmr
        have HPm := Lib.hid (HP.out m hml hmr HLN.out HK.out)
        have HST := Lib.hid (fun (h : l[m]'hml = r[m]'hmr) => (show l.drop m = r.drop m by rw [List.drop_eq_getElem_cons hml, List.drop_eq_getElem_cons hmr, h, HK.out]))
        clear hcell hcell' HP
        generalize l[m]'hml = p at *
        generalize r[m]'hmr = q at *
        by_cases hpq : p = q
        · subst hpq
          go_wp2_with fail
          go_quiet (fail)
          go_wp2_with fail
          go_roundw
          case rel => exact ⟨m, _, by omega, by go_num, Lib.hid (HST.out (by trivial)), rfl⟩
          case measure => simp [intOf]
        · have b2 : ((p : Int) != (q : Int)) = true := by simp; omega
          have HE := Lib.hid (HPm.out hpq)
          clear hpq HPm
          go_wp2_with fail
          go_quiet (fail)
          go_wp2_with fail
          go_quiet (fail)
          go_wp2_with fail
          go_ret
          exact ⟨by rw [← HE.out]; rfl, (Gr.drewN _ _).trans ((Gr.drewN _ _).trans (Gr.drewN _ _))⟩
  · have b1 : (((bin x).length : Int) != ((bin y).length : Int)) = true := by rw [bne_iff_ne]; omega
    have H := Lib.hid (less_len x y hlen)
    clear hlen
    generalize bin x = l at *
    generalize bin y = r at *
    go_enter Tryd.func41, Tryd.ntmps41
    go_wp2_with fail
    go_ret
    exact ⟨by rw [← H.out]; rfl, Gr.refl _⟩
end Go.Proofs.YtdmddfhjfkdlnaaDoor
