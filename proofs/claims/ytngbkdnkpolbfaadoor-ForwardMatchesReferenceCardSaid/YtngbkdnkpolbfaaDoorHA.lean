/- The contracts of the reference's Name, one, Proper. Under no condition but sizes. -/
import Derived.Test.YtngbkdnkpolbfaaDoorGR
import Derived.Test.YtngbkdnkpolbfaaDoorFWB
namespace Go.Proofs.YtngbkdnkpolbfaaDoor
open Go.RowKit Go.Maps

theorem nm_small (s : ByteArray) (h : s.size < 1 ∨ 24 < s.size) : nmB s = false := by
  unfold nmB
  rw [decide_eq_false (by omega), Bool.and_false]
set_option maxHeartbeats 8000000 in
set_option maxRecDepth 100000 in
theorem rname_any (s : ByteArray) (w : World) (hs : s.size ≤ 1000) :
    Calls Tryd.prog 31 #[.string s] w fun e w' => e = .returned (.bool (nmB s)) ∧ w = w' := by
  have HT := Lib.hid (chk_take s)
  have HF := Lib.hid (chk_fall s)
  have HA := Lib.hid (chk_all s)
  have HS0 := Lib.hid (nm_small s)
  generalize nmB s = B at *
  by_cases z1 : s.size < 1
  · have HN := Lib.hid (HS0.out (Or.inl z1))
    clear HT HF HA HS0
    go_enter Tryd.func31, Tryd.ntmps31
    go_wp2_with fail
    go_ret
    exact ⟨by rw [HN.out]; rfl, rfl⟩
  by_cases z2 : 24 < s.size
  · have HN := Lib.hid (HS0.out (Or.inr z2))
    have z1' : decide ((s.size : Int) < 1) = false := by simp; omega
    clear HT HF HA HS0
    go_enter Tryd.func31, Tryd.ntmps31
    go_wp2_with fail
    go_ret
    exact ⟨by rw [HN.out]; rfl, rfl⟩
  have z1' : decide ((s.size : Int) < 1) = false := by simp; omega
  have z2' : ¬ (24 : Int) < (s.size : Int) := by omega
  go_enter Tryd.func31, Tryd.ntmps31
  go_wp2_with fail
  go_loop [3, 4, 5] (fun iv _l _d => ∃ k : Nat, k ≤ s.size ∧ iv = .int .i64 k ∧ Hid (chk 0 (s.data.toList.take k) = true)) (fun i _ _ => s.size - (intOf i).toNat)
  case atStart => exact ⟨0, by omega, rfl, Lib.hid rfl⟩
  case round =>
    obtain ⟨k, hk, rfl, HK⟩ := hrel
    by_cases hlt : k < s.size
    · have HS := Lib.hid (HT.out k hlt HK.out)
      have hc := (s[k]).toNat_lt
      have HOK : Hid (okc k (s[k]).toNat = false → B = false) := Lib.hid (fun h => HF.out (k + 1) (by rw [HS.out]; exact h))
      clear HT HF HA HK HS0
      by_cases hk0 : k = 0
      · have b0 : ((k : Int) == 0) = true := by rw [beq_iff_eq]; omega
        have HK0 := Lib.hid hk0
        have hk1 : k ≤ 0 := by omega
        clear hk0
        rcases (show ((s[k]).toNat ≤ 64) ∨ (65 ≤ (s[k]).toNat ∧ (s[k]).toNat ≤ 90) ∨ (91 ≤ (s[k]).toNat ∧ (s[k]).toNat ≤ 96) ∨ (97 ≤ (s[k]).toNat ∧ (s[k]).toNat ≤ 122) ∨ (123 ≤ (s[k]).toNat) by omega) with h | ⟨h, h'⟩ | ⟨h, h'⟩ | ⟨h, h'⟩ | h
        · have HB := Lib.hid (HOK.out (by unfold okc; generalize (s[k]).toNat = cc at *; rw [HK0.out]; simp; omega))
          have d90 : decide (((s[k]).toNat : Int) ≤ 90) = true := by simp; omega
          have d122 : decide (((s[k]).toNat : Int) ≤ 122) = true := by simp; omega
          have g65 : decide ((65 : Int) ≤ ((s[k]).toNat : Int)) = false := by simp; omega
          have g97 : decide ((97 : Int) ≤ ((s[k]).toNat : Int)) = false := by simp; omega
          have b1 : (((s[k]).toNat : Int) == 95) = false := by rw [beq_eq_false_iff_ne]; omega
          clear HOK
          go_wp2_with fail
          all_goals (go_ret; exact ⟨by rw [HB.out]; rfl, rfl⟩)
        · have HN := Lib.hid (show okc k (s[k]).toNat = true by unfold okc; generalize (s[k]).toNat = cc at *; rw [HK0.out]; simp; omega)
          have d57 : decide (((s[k]).toNat : Int) ≤ 57) = false := by simp; omega
          have d90 : decide (((s[k]).toNat : Int) ≤ 90) = true := by simp; omega
          have d122 : decide (((s[k]).toNat : Int) ≤ 122) = true := by simp; omega
          have g48 : decide ((48 : Int) ≤ ((s[k]).toNat : Int)) = true := by simp; omega
          have g65 : decide ((65 : Int) ≤ ((s[k]).toNat : Int)) = true := by simp; omega
          have g97 : decide ((97 : Int) ≤ ((s[k]).toNat : Int)) = false := by simp; omega
          have b1 : (((s[k]).toNat : Int) == 95) = false := by rw [beq_eq_false_iff_ne]; omega
          clear HOK
          go_wp2_with fail
          exact ⟨⟨k + 1, by omega, by go_num, Lib.hid (HS.out.trans HN.out)⟩, by simp [intOf]; omega⟩
        · have HB := Lib.hid (HOK.out (by unfold okc; generalize (s[k]).toNat = cc at *; rw [HK0.out]; simp; omega))
          have d57 : decide (((s[k]).toNat : Int) ≤ 57) = false := by simp; omega
          have d90 : decide (((s[k]).toNat : Int) ≤ 90) = false := by simp; omega
          have d122 : decide (((s[k]).toNat : Int) ≤ 122) = true := by simp; omega
          have g48 : decide ((48 : Int) ≤ ((s[k]).toNat : Int)) = true := by simp; omega
          have g65 : decide ((65 : Int) ≤ ((s[k]).toNat : Int)) = true := by simp; omega
          have g97 : decide ((97 : Int) ≤ ((s[k]).toNat : Int)) = false := by simp; omega
          clear HOK
          go_wp2_with fail
          all_goals (go_ret; exact ⟨by rw [HB.out]; rfl, rfl⟩)
        · have HN := Lib.hid (show okc k (s[k]).toNat = true by unfold okc; generalize (s[k]).toNat = cc at *; rw [HK0.out]; simp; omega)
          have d57 : decide (((s[k]).toNat : Int) ≤ 57) = false := by simp; omega
          have d90 : decide (((s[k]).toNat : Int) ≤ 90) = false := by simp; omega
          have d122 : decide (((s[k]).toNat : Int) ≤ 122) = true := by simp; omega
          have g48 : decide ((48 : Int) ≤ ((s[k]).toNat : Int)) = true := by simp; omega
          have g65 : decide ((65 : Int) ≤ ((s[k]).toNat : Int)) = true := by simp; omega
          have g97 : decide ((97 : Int) ≤ ((s[k]).toNat : Int)) = true := by simp; omega
          have b1 : (((s[k]).toNat : Int) == 95) = false := by rw [beq_eq_false_iff_ne]; omega
          clear HOK
          go_wp2_with fail
          exact ⟨⟨k + 1, by omega, by go_num, Lib.hid (HS.out.trans HN.out)⟩, by simp [intOf]; omega⟩
        · have HB := Lib.hid (HOK.out (by unfold okc; generalize (s[k]).toNat = cc at *; rw [HK0.out]; simp; omega))
          have d57 : decide (((s[k]).toNat : Int) ≤ 57) = false := by simp; omega
          have d90 : decide (((s[k]).toNat : Int) ≤ 90) = false := by simp; omega
          have d122 : decide (((s[k]).toNat : Int) ≤ 122) = false := by simp; omega
          have g48 : decide ((48 : Int) ≤ ((s[k]).toNat : Int)) = true := by simp; omega
          have g65 : decide ((65 : Int) ≤ ((s[k]).toNat : Int)) = true := by simp; omega
          have g97 : decide ((97 : Int) ≤ ((s[k]).toNat : Int)) = true := by simp; omega
          have b1 : (((s[k]).toNat : Int) == 95) = false := by rw [beq_eq_false_iff_ne]; omega
          clear HOK
          go_wp2_with fail
          all_goals (go_ret; exact ⟨by rw [HB.out]; rfl, rfl⟩)
      · have b0 : ((k : Int) == 0) = false := by rw [beq_eq_false_iff_ne]; omega
        rcases (show ((s[k]).toNat ≤ 47) ∨ (48 ≤ (s[k]).toNat ∧ (s[k]).toNat ≤ 57) ∨ (58 ≤ (s[k]).toNat ∧ (s[k]).toNat ≤ 64) ∨ (65 ≤ (s[k]).toNat ∧ (s[k]).toNat ≤ 90) ∨ (91 ≤ (s[k]).toNat ∧ (s[k]).toNat ≤ 94) ∨ (95 ≤ (s[k]).toNat ∧ (s[k]).toNat ≤ 95) ∨ (96 ≤ (s[k]).toNat ∧ (s[k]).toNat ≤ 96) ∨ (97 ≤ (s[k]).toNat ∧ (s[k]).toNat ≤ 122) ∨ (123 ≤ (s[k]).toNat) by omega) with h | ⟨h, h'⟩ | ⟨h, h'⟩ | ⟨h, h'⟩ | ⟨h, h'⟩ | ⟨h, h'⟩ | ⟨h, h'⟩ | ⟨h, h'⟩ | h
        · have HB := Lib.hid (HOK.out (by unfold okc; generalize (s[k]).toNat = cc at *; simp; omega))
          have d57 : decide (((s[k]).toNat : Int) ≤ 57) = true := by simp; omega
          have d90 : decide (((s[k]).toNat : Int) ≤ 90) = true := by simp; omega
          have d122 : decide (((s[k]).toNat : Int) ≤ 122) = true := by simp; omega
          have g48 : decide ((48 : Int) ≤ ((s[k]).toNat : Int)) = false := by simp; omega
          have g65 : decide ((65 : Int) ≤ ((s[k]).toNat : Int)) = false := by simp; omega
          have g97 : decide ((97 : Int) ≤ ((s[k]).toNat : Int)) = false := by simp; omega
          have b1 : (((s[k]).toNat : Int) == 95) = false := by rw [beq_eq_false_iff_ne]; omega
          clear HOK
          go_wp2_with fail
          all_goals (go_ret; exact ⟨by rw [HB.out]; rfl, rfl⟩)
        · have HN := Lib.hid (show okc k (s[k]).toNat = true by unfold okc; generalize (s[k]).toNat = cc at *; simp; omega)
          have d57 : decide (((s[k]).toNat : Int) ≤ 57) = true := by simp; omega
          have d90 : decide (((s[k]).toNat : Int) ≤ 90) = true := by simp; omega
          have d122 : decide (((s[k]).toNat : Int) ≤ 122) = true := by simp; omega
          have g48 : decide ((48 : Int) ≤ ((s[k]).toNat : Int)) = true := by simp; omega
          have g65 : decide ((65 : Int) ≤ ((s[k]).toNat : Int)) = false := by simp; omega
          have g97 : decide ((97 : Int) ≤ ((s[k]).toNat : Int)) = false := by simp; omega
          have b1 : (((s[k]).toNat : Int) == 95) = false := by rw [beq_eq_false_iff_ne]; omega
          clear HOK
          go_wp2_with fail
          exact ⟨⟨k + 1, by omega, by go_num, Lib.hid (HS.out.trans HN.out)⟩, by simp [intOf]; omega⟩
        · have HB := Lib.hid (HOK.out (by unfold okc; generalize (s[k]).toNat = cc at *; simp; omega))
          have d57 : decide (((s[k]).toNat : Int) ≤ 57) = false := by simp; omega
          have d90 : decide (((s[k]).toNat : Int) ≤ 90) = true := by simp; omega
          have d122 : decide (((s[k]).toNat : Int) ≤ 122) = true := by simp; omega
          have g48 : decide ((48 : Int) ≤ ((s[k]).toNat : Int)) = true := by simp; omega
          have g65 : decide ((65 : Int) ≤ ((s[k]).toNat : Int)) = false := by simp; omega
          have g97 : decide ((97 : Int) ≤ ((s[k]).toNat : Int)) = false := by simp; omega
          have b1 : (((s[k]).toNat : Int) == 95) = false := by rw [beq_eq_false_iff_ne]; omega
          clear HOK
          go_wp2_with fail
          all_goals (go_ret; exact ⟨by rw [HB.out]; rfl, rfl⟩)
        · have HN := Lib.hid (show okc k (s[k]).toNat = true by unfold okc; generalize (s[k]).toNat = cc at *; simp; omega)
          have d57 : decide (((s[k]).toNat : Int) ≤ 57) = false := by simp; omega
          have d90 : decide (((s[k]).toNat : Int) ≤ 90) = true := by simp; omega
          have d122 : decide (((s[k]).toNat : Int) ≤ 122) = true := by simp; omega
          have g48 : decide ((48 : Int) ≤ ((s[k]).toNat : Int)) = true := by simp; omega
          have g65 : decide ((65 : Int) ≤ ((s[k]).toNat : Int)) = true := by simp; omega
          have g97 : decide ((97 : Int) ≤ ((s[k]).toNat : Int)) = false := by simp; omega
          have b1 : (((s[k]).toNat : Int) == 95) = false := by rw [beq_eq_false_iff_ne]; omega
          clear HOK
          go_wp2_with fail
          exact ⟨⟨k + 1, by omega, by go_num, Lib.hid (HS.out.trans HN.out)⟩, by simp [intOf]; omega⟩
        · have HB := Lib.hid (HOK.out (by unfold okc; generalize (s[k]).toNat = cc at *; simp; omega))
          have d57 : decide (((s[k]).toNat : Int) ≤ 57) = false := by simp; omega
          have d90 : decide (((s[k]).toNat : Int) ≤ 90) = false := by simp; omega
          have d122 : decide (((s[k]).toNat : Int) ≤ 122) = true := by simp; omega
          have g48 : decide ((48 : Int) ≤ ((s[k]).toNat : Int)) = true := by simp; omega
          have g65 : decide ((65 : Int) ≤ ((s[k]).toNat : Int)) = true := by simp; omega
          have g97 : decide ((97 : Int) ≤ ((s[k]).toNat : Int)) = false := by simp; omega
          have b1 : (((s[k]).toNat : Int) == 95) = false := by rw [beq_eq_false_iff_ne]; omega
          clear HOK
          go_wp2_with fail
          all_goals (go_ret; exact ⟨by rw [HB.out]; rfl, rfl⟩)
        · have HN := Lib.hid (show okc k (s[k]).toNat = true by unfold okc; generalize (s[k]).toNat = cc at *; simp; omega)
          have d57 : decide (((s[k]).toNat : Int) ≤ 57) = false := by simp; omega
          have d90 : decide (((s[k]).toNat : Int) ≤ 90) = false := by simp; omega
          have d122 : decide (((s[k]).toNat : Int) ≤ 122) = true := by simp; omega
          have g48 : decide ((48 : Int) ≤ ((s[k]).toNat : Int)) = true := by simp; omega
          have g65 : decide ((65 : Int) ≤ ((s[k]).toNat : Int)) = true := by simp; omega
          have g97 : decide ((97 : Int) ≤ ((s[k]).toNat : Int)) = false := by simp; omega
          have b1 : (((s[k]).toNat : Int) == 95) = true := by rw [beq_iff_eq]; omega
          clear HOK
          go_wp2_with fail
          exact ⟨⟨k + 1, by omega, by go_num, Lib.hid (HS.out.trans HN.out)⟩, by simp [intOf]; omega⟩
        · have HB := Lib.hid (HOK.out (by unfold okc; generalize (s[k]).toNat = cc at *; simp; omega))
          have d57 : decide (((s[k]).toNat : Int) ≤ 57) = false := by simp; omega
          have d90 : decide (((s[k]).toNat : Int) ≤ 90) = false := by simp; omega
          have d122 : decide (((s[k]).toNat : Int) ≤ 122) = true := by simp; omega
          have g48 : decide ((48 : Int) ≤ ((s[k]).toNat : Int)) = true := by simp; omega
          have g65 : decide ((65 : Int) ≤ ((s[k]).toNat : Int)) = true := by simp; omega
          have g97 : decide ((97 : Int) ≤ ((s[k]).toNat : Int)) = false := by simp; omega
          have b1 : (((s[k]).toNat : Int) == 95) = false := by rw [beq_eq_false_iff_ne]; omega
          clear HOK
          go_wp2_with fail
          all_goals (go_ret; exact ⟨by rw [HB.out]; rfl, rfl⟩)
        · have HN := Lib.hid (show okc k (s[k]).toNat = true by unfold okc; generalize (s[k]).toNat = cc at *; simp; omega)
          have d57 : decide (((s[k]).toNat : Int) ≤ 57) = false := by simp; omega
          have d90 : decide (((s[k]).toNat : Int) ≤ 90) = false := by simp; omega
          have d122 : decide (((s[k]).toNat : Int) ≤ 122) = true := by simp; omega
          have g48 : decide ((48 : Int) ≤ ((s[k]).toNat : Int)) = true := by simp; omega
          have g65 : decide ((65 : Int) ≤ ((s[k]).toNat : Int)) = true := by simp; omega
          have g97 : decide ((97 : Int) ≤ ((s[k]).toNat : Int)) = true := by simp; omega
          have b1 : (((s[k]).toNat : Int) == 95) = false := by rw [beq_eq_false_iff_ne]; omega
          clear HOK
          go_wp2_with fail
          exact ⟨⟨k + 1, by omega, by go_num, Lib.hid (HS.out.trans HN.out)⟩, by simp [intOf]; omega⟩
        · have HB := Lib.hid (HOK.out (by unfold okc; generalize (s[k]).toNat = cc at *; simp; omega))
          have d57 : decide (((s[k]).toNat : Int) ≤ 57) = false := by simp; omega
          have d90 : decide (((s[k]).toNat : Int) ≤ 90) = false := by simp; omega
          have d122 : decide (((s[k]).toNat : Int) ≤ 122) = false := by simp; omega
          have g48 : decide ((48 : Int) ≤ ((s[k]).toNat : Int)) = true := by simp; omega
          have g65 : decide ((65 : Int) ≤ ((s[k]).toNat : Int)) = true := by simp; omega
          have g97 : decide ((97 : Int) ≤ ((s[k]).toNat : Int)) = true := by simp; omega
          have b1 : (((s[k]).toNat : Int) == 95) = false := by rw [beq_eq_false_iff_ne]; omega
          clear HOK
          go_wp2_with fail
          all_goals (go_ret; exact ⟨by rw [HB.out]; rfl, rfl⟩)
    · obtain rfl : k = s.size := by omega
      have HN : Hid (B = true) := Lib.hid (by rw [HA.out HK.out]; simp; omega)
      clear HT HF HA HK HS0
      go_wp2_with fail
      go_ret
      exact ⟨by rw [HN.out]; rfl, rfl⟩
theorem rname_at {s : ByteArray} {b : Bool} (h : nmB s = b) (w : World) (hs : s.size ≤ 1000) : Calls Tryd.prog 31 #[.string s] w fun e w' => e = .returned (.bool b) ∧ w = w' := by
  rw [← h]; exact rname_any s w hs
theorem rperiod_at {f u : Int} {b : Bool} (h : prp (f, u) = b) (w : World) : Calls Tryd.prog 50 #[.agg #[.int .i64 f, .int .i64 u]] w fun e w' => e = .returned (.bool b) ∧ Gr w w' := by
  rw [← h]; exact rproper_any f u w
set_option maxHeartbeats 8000000 in
set_option maxRecDepth 100000 in
theorem rone_any (o : Ord) (w : World) (hz : Small o) : Calls Tryd.prog 34 #[.agg (encO o)] w fun e w' => e = .returned (.bool (oneB o)) ∧ Gr w w' := by
  obtain ⟨z1, z2, z3, z4⟩ := hz
  obtain ⟨B, hB⟩ : ∃ B, oneB o = B := ⟨_, rfl⟩
  rw [hB]
  have HB := Lib.hid hB
  clear hB
  cases h1 : nmB o.id
  · have HN : Hid (B = false) := Lib.hid (by rw [← HB.out]; simp [oneB, h1])
    clear HB
    go_enter Tryd.func34, Tryd.ntmps34
    go_wp2_with fail
    refine (rname_at h1 _ z1).mono ?_
    rintro e w' ⟨rfl, rfl⟩
    go_wp2_with fail
    go_ret
    exact ⟨by rw [HN.out]; rfl, Gr.one _ _⟩
  cases h2 : nmB o.pn
  · have HN : Hid (B = false) := Lib.hid (by rw [← HB.out]; simp [oneB, h1, h2])
    clear HB
    go_enter Tryd.func34, Tryd.ntmps34
    go_wp2_with fail
    refine (rname_at h1 _ z1).mono ?_
    rintro e w' ⟨rfl, rfl⟩
    go_wp2_with fail
    refine (rname_at h2 _ z2).mono ?_
    rintro e w' ⟨rfl, rfl⟩
    go_wp2_with fail
    go_ret
    exact ⟨by rw [HN.out]; rfl, Gr.one _ _⟩
  cases h3 : nmB o.fr
  · have HN : Hid (B = false) := Lib.hid (by rw [← HB.out]; simp [oneB, h1, h2, h3])
    clear HB
    go_enter Tryd.func34, Tryd.ntmps34
    go_wp2_with fail
    refine (rname_at h1 _ z1).mono ?_
    rintro e w' ⟨rfl, rfl⟩
    go_wp2_with fail
    refine (rname_at h2 _ z2).mono ?_
    rintro e w' ⟨rfl, rfl⟩
    go_wp2_with fail
    refine (rname_at h3 _ z3).mono ?_
    rintro e w' ⟨rfl, rfl⟩
    go_wp2_with fail
    go_ret
    exact ⟨by rw [HN.out]; rfl, Gr.one _ _⟩
  cases h4 : nmB o.to
  · have HN : Hid (B = false) := Lib.hid (by rw [← HB.out]; simp [oneB, h1, h2, h3, h4])
    clear HB
    go_enter Tryd.func34, Tryd.ntmps34
    go_wp2_with fail
    refine (rname_at h1 _ z1).mono ?_
    rintro e w' ⟨rfl, rfl⟩
    go_wp2_with fail
    refine (rname_at h2 _ z2).mono ?_
    rintro e w' ⟨rfl, rfl⟩
    go_wp2_with fail
    refine (rname_at h3 _ z3).mono ?_
    rintro e w' ⟨rfl, rfl⟩
    go_wp2_with fail
    refine (rname_at h4 _ z4).mono ?_
    rintro e w' ⟨rfl, rfl⟩
    go_wp2_with fail
    go_ret
    exact ⟨by rw [HN.out]; rfl, Gr.one _ _⟩
  by_cases h5 : o.fr = o.to
  · have b5 := bytes_eq h5
    have HN : Hid (B = false) := Lib.hid (by rw [← HB.out]; simp [oneB, h5])
    clear HB h5
    go_enter Tryd.func34, Tryd.ntmps34
    go_wp2_with fail
    refine (rname_at h1 _ z1).mono ?_
    rintro e w' ⟨rfl, rfl⟩
    go_wp2_with fail
    refine (rname_at h2 _ z2).mono ?_
    rintro e w' ⟨rfl, rfl⟩
    go_wp2_with fail
    refine (rname_at h3 _ z3).mono ?_
    rintro e w' ⟨rfl, rfl⟩
    go_wp2_with fail
    refine (rname_at h4 _ z4).mono ?_
    rintro e w' ⟨rfl, rfl⟩
    go_wp2_with fail
    go_ret
    exact ⟨by rw [HN.out]; rfl, Gr.one _ _⟩
  have b5 := bytes_ne h5
  cases h6 : prp (o.pf, o.pu)
  · have HN : Hid (B = false) := Lib.hid (by rw [← HB.out]; simp [oneB, h1, h2, h3, h4, h5, h6])
    clear HB h5
    go_enter Tryd.func34, Tryd.ntmps34
    go_wp2_with fail
    refine (rname_at h1 _ z1).mono ?_
    rintro e w' ⟨rfl, rfl⟩
    go_wp2_with fail
    refine (rname_at h2 _ z2).mono ?_
    rintro e w' ⟨rfl, rfl⟩
    go_wp2_with fail
    refine (rname_at h3 _ z3).mono ?_
    rintro e w' ⟨rfl, rfl⟩
    go_wp2_with fail
    refine (rname_at h4 _ z4).mono ?_
    rintro e w' ⟨rfl, rfl⟩
    go_wp2_with fail
    refine (rperiod_at h6 _).mono ?_
    rintro e w1 ⟨rfl, hg⟩
    have HG := Lib.hid ((Gr.one w (.cells (encO o) 26)).trans hg)
    clear hg
    go_wp2_with fail
    go_ret
    exact ⟨by rw [HN.out]; rfl, HG.out⟩
  · have HN : Hid (B = true) := Lib.hid (by rw [← HB.out]; simp [oneB, h1, h2, h3, h4, h5, h6])
    clear HB h5
    go_enter Tryd.func34, Tryd.ntmps34
    go_wp2_with fail
    refine (rname_at h1 _ z1).mono ?_
    rintro e w' ⟨rfl, rfl⟩
    go_wp2_with fail
    refine (rname_at h2 _ z2).mono ?_
    rintro e w' ⟨rfl, rfl⟩
    go_wp2_with fail
    refine (rname_at h3 _ z3).mono ?_
    rintro e w' ⟨rfl, rfl⟩
    go_wp2_with fail
    refine (rname_at h4 _ z4).mono ?_
    rintro e w' ⟨rfl, rfl⟩
    go_wp2_with fail
    refine (rperiod_at h6 _).mono ?_
    rintro e w1 ⟨rfl, hg⟩
    have HG := Lib.hid ((Gr.one w (.cells (encO o) 26)).trans hg)
    clear hg
    go_wp2_with fail
    go_ret
    exact ⟨by rw [HN.out]; rfl, HG.out⟩
theorem rone_at {o : Ord} {b : Bool} (h : oneB o = b) (w : World) (hz : Small o) : Calls Tryd.prog 34 #[.agg (encO o)] w fun e w' => e = .returned (.bool b) ∧ Gr w w' := by
  rw [← h]; exact rone_any o w hz
end Go.Proofs.YtngbkdnkpolbfaaDoor
