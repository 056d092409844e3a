/- The walk of the law DateUnion at proper periods. Under the condition that the tables lie in memory as the program lays them. -/
import Derived.Test.YtjebbmnjegndkaaDoorS
import Derived.BigQuiet
namespace Go.Proofs.YtjebbmnjegndkaaDoor
open Go.RowKit

theorem cv_take_succ (l : List (Int × Int)) (k : Nat) (h : k < l.length) (d : Int) : cv (l.take (k + 1)) d = (cv (l.take k) d || cov l[k] d) := by
  rw [take_succ' l k h, cv_app]; simp [cv]
theorem cnt_take_succ (l : List (Int × Int)) (k : Nat) (h : k < l.length) (d : Int) : cnt (l.take (k + 1)) d = cnt (l.take k) d + if cov l[k] d = true then 1 else 0 := by
  rw [take_succ' l k h, cnt_snoc]

set_option maxHeartbeats 16000000 in
set_option maxRecDepth 100000 in
theorem union_law_good (A : Option Addr) (c : Nat) (l : List (Int × Int)) (d : Int) (w : World) (hL : Laid w) (hR : Rd w A l) (h : l.length ≤ 30) (hp : ∀ p ∈ l, prp p = true) : Calls Tryd.prog 7 #[.slice A l.length c, .int .i64 d] w (Yes w) := by
  obtain ⟨i0, hi0, hz0, hz1, hz2⟩ := info_parts info41
  have mixed : Tryd.prog.follows .mixedOrders = true := Tryd.sortP.mixed
  have hn : decide ((30 : Int) < (l.length : Int)) = false := by simp; omega
  have HL := Lib.hid hL
  have HR := Lib.hid hR
  have HP := Lib.hid hp
  clear hL hR hp
  go_enter Tryd.func7, Tryd.ntmps7
  go_wp2_with fail
  refine (head_any _ HL.out).mono ?_
  rintro e w1 ⟨rfl, hb⟩
  have B1 := Lib.hid hb
  clear hb
  go_wp2_with fail
  refine (union_any A c l _ (by omega) HP.out (HR.out.keep B1.out)).mono ?_
  rintro e w2 ⟨A2, c2, u, rfl, hU, hR2, hb⟩
  have HU := Lib.hid hU
  have hul : u.length ≤ 30 := Nat.le_trans (hU.len HP.out) h
  have HRu := Lib.hid hR2
  have B2 := Lib.hid (B1.out.trans (hb.mono B1.out.size))
  have HR2 := Lib.hid (HR.out.keep B2.out)
  clear hb B1 HL HR hU hR2
  go_wp2_with fail
  go_loopw [8, 9] (fun a i wr => ∃ k : Nat, k ≤ l.length ∧ i = .int .i64 k ∧ a = .bool (cv (l.take k) d) ∧ Hid (Gr w2 wr)) (fun _ i _ => l.length - (intOf i).toNat)
  case atStart => exact ⟨0, Nat.zero_le _, rfl, rfl, Gr.refl _⟩
  case round =>
    obtain ⟨k, hk, rfl, rfl, hg⟩ := hrel
    by_cases hlt : k < l.length
    · rcases HR2.out with hA | ⟨bl, off, rfl, hbl, hca⟩
      · rw [hA] at hlt; simp at hlt
      obtain ⟨x0, x1⟩ := hca k hlt
      replace x0 := hg.out.cell hbl x0
      replace x1 := hg.out.cell hbl x1
      have C1 := Lib.hid (fun W => proper_any l[k].1 l[k].2 W)
      have C2 := Lib.hid (fun W => covers_any l[k].1 l[k].2 d W)
      have HS := Lib.hid (cv_take_succ l k hlt d)
      have hpk : prp (l[k].1, l[k].2) = true := HP.out _ (List.getElem_mem _)
      rw [hpk] at C1
      have hcc : cov l[k] d = cov (l[k].1, l[k].2) d := rfl
      rw [hcc] at HS
      clear hpk hcc hca
      generalize cov (l[k].1, l[k].2) d = cb at *
      generalize l[k].1 = f at *
      generalize l[k].2 = u' at *
      generalize cv (l.take k) d = b at *
      go_wp2_with fail
      refine (C1.out _).mono ?_
      rintro e w3 ⟨rfl, hg3⟩
      replace x0 := hg3.cell (by exact Nat.lt_of_lt_of_le hbl hg.out.size) x0
      replace x1 := hg3.cell (by exact Nat.lt_of_lt_of_le hbl hg.out.size) x1
      have HG3 : Hid (Gr w2 w3) := hg.out.trans hg3
      clear hg3
      cases b with
      | true =>
        go_wp2_with fail
        go_roundw
        case rel => exact ⟨k + 1, by omega, by go_num, by rw [HS.out]; rfl, HG3⟩
        case measure => simp [intOf]; omega
      | false =>
        go_wp2_with fail
        refine (C2.out _).mono ?_
        rintro e w4 ⟨rfl, hg4⟩
        have HG4 : Hid (Gr w2 w4) := HG3.out.trans hg4
        clear hg4
        go_wp2_with fail
        go_roundw
        case rel => exact ⟨k + 1, by omega, by go_num, by rw [HS.out]; rfl, HG4⟩
        case measure => simp [intOf]; omega
    · obtain rfl : k = l.length := by omega
      have hT := Lib.hid (show cv (l.take l.length) d = cv l d by rw [List.take_length])
      rw [hT.out]
      have hcn := HU.out.count d
      have HC := Lib.hid hcn
      clear hT hcn
      generalize cv l d = cvl at *
      have HRu3 := Lib.hid (HRu.out.keep hg.out.below)
      have HR3 := Lib.hid (HR2.out.keep hg.out.below)
      have B3 := Lib.hid (B2.out.trans (hg.out.below.mono B2.out.size))
      clear HRu HR2 B2 hg
      obtain ⟨W3, rfl⟩ : ∃ W3 : World, W3 = wr := ⟨_, rfl⟩
      go_wp2_with fail
      go_loopw [10, 11] (fun n i wr => ∃ k : Nat, k ≤ u.length ∧ i = .int .i64 k ∧ n = .int .i64 (cnt (u.take k) d : Nat) ∧ Hid (Gr W3 wr)) (fun _ i _ => u.length - (intOf i).toNat)
      case atStart => exact ⟨0, Nat.zero_le _, rfl, rfl, Gr.refl _⟩
      case round =>
        obtain ⟨k, hk, rfl, rfl, hg⟩ := hrel
        by_cases hlt : k < u.length
        · rcases HRu3.out with hA | ⟨bl, off, rfl, hbl, hca⟩
          · rw [hA] at hlt; simp at hlt
          obtain ⟨x0, x1⟩ := hca k hlt
          replace x0 := hg.out.cell hbl x0
          replace x1 := hg.out.cell hbl x1
          cases k with
          | zero =>
            have C1 := Lib.hid (fun W => proper_any u[0].1 u[0].2 W)
            have C2 := Lib.hid (fun W => covers_any u[0].1 u[0].2 d W)
            have HS := Lib.hid (cnt_take_succ u 0 hlt d)
            have hcl := cnt_le (u.take 0) d
            have hpk : prp (u[0].1, u[0].2) = true := HU.out.prps _ (List.getElem_mem _)
            rw [hpk] at C1
            have hcc : cov u[0] d = cov (u[0].1, u[0].2) d := rfl
            rw [hcc] at HS
            have hcl2 : cnt (u.take 0) d ≤ 30 := by rw [List.length_take] at hcl; omega
            clear hpk hcc hcl
            generalize cnt (u.take 0) d = N at *
            clear hca
            generalize cov (u[0].1, u[0].2) d = cb at *
            generalize u[0].1 = f at *
            generalize u[0].2 = u' at *
            have hbw : bl < wr.heap.size := Nat.lt_of_lt_of_le hbl hg.out.size
            have a0 : ∀ n os, (Sort.grow (wr.drewN n) os).cell? ⟨bl, off, none⟩ = some (.int .i64 f) := fun n os => cell_grown hbw (by simpa using x0) n os
            have a1 : ∀ n os, (Sort.grow (wr.drewN n) os).cell? ⟨bl, off + 1, none⟩ = some (.int .i64 u') := fun n os => cell_grown hbw (by simpa using x1) n os
            have hw2 : (0 : Int) < (u.length : Int) := by omega
            go_wp2_with fail
            clear x0 x1
            refine wp_region_quiet_grown (by assumption) (by kernel_rfl) ?_
            repeat (first | go_big_quiet_skip | quiet_step ((go_at_call 18; exact Calls.grown_of (C1.out _))))
            refine wpQuiet_nil ?_
            intro _ hw'
            obtain ⟨⟨nq, osq⟩, hw''⟩ := hw'
            subst hw''
            dsimp only
            have v0 := a0 nq osq
            have v1 := a1 nq osq
            have HGx : Hid (Gr W3 (Sort.grow (wr.drewN nq) osq)) := hg.out.trans ⟨nq, osq, rfl⟩
            clear a0 a1 hg
            generalize Sort.grow (wr.drewN nq) osq = W4 at *
            go_wp2_with fail
            refine (C2.out _).mono ?_
            rintro e w5 ⟨rfl, hg5⟩
            have HG5 : Hid (Gr W3 w5) := HGx.out.trans hg5
            clear hg5
            cases cb with
            | true =>
              go_wp2_with fail
              go_roundw
              case rel => exact ⟨0 + 1, by omega, by go_num, by rw [HS.out]; simp, HG5⟩
              case measure => simp [intOf]; omega
            | false =>
              go_wp2_with fail
              go_roundw
              case rel => exact ⟨0 + 1, by omega, by go_num, by rw [HS.out]; simp, HG5⟩
              case measure => simp [intOf]; omega

          | succ k =>
            have C1 := Lib.hid (fun W => proper_any u[k + 1].1 u[k + 1].2 W)
            have C2 := Lib.hid (fun W => covers_any u[k + 1].1 u[k + 1].2 d W)
            have HS := Lib.hid (cnt_take_succ u (k + 1) hlt d)
            have hcl := cnt_le (u.take (k + 1)) d
            have hpk : prp (u[k + 1].1, u[k + 1].2) = true := HU.out.prps _ (List.getElem_mem _)
            rw [hpk] at C1
            have hcc : cov u[k + 1] d = cov (u[k + 1].1, u[k + 1].2) d := rfl
            rw [hcc] at HS
            have hcl2 : cnt (u.take (k + 1)) d ≤ 30 := by rw [List.length_take] at hcl; omega
            clear hpk hcc hcl
            generalize cnt (u.take (k + 1)) d = N at *
            obtain ⟨z1, z2⟩ := HU.out.before k hlt
            obtain ⟨_, y1⟩ := hca k (by omega)
            replace y1 := hg.out.cell hbl y1
            clear hca
            generalize cov (u[k + 1].1, u[k + 1].2) d = cb at *
            generalize u[k + 1].1 = f at *
            generalize u[k + 1].2 = u' at *
            generalize u[k].2 = pu at *
            have hbw : bl < wr.heap.size := Nat.lt_of_lt_of_le hbl hg.out.size
            have a0 : ∀ n os, (Sort.grow (wr.drewN n) os).cell? ⟨bl, off + (k + 1) * 2, none⟩ = some (.int .i64 f) := fun n os => cell_grown hbw x0 n os
            have a1 : ∀ n os, (Sort.grow (wr.drewN n) os).cell? ⟨bl, off + (k + 1) * 2 + 1, none⟩ = some (.int .i64 u') := fun n os => cell_grown hbw x1 n os
            have a2 : ∀ n os, (Sort.grow (wr.drewN n) os).cell? ⟨bl, off + k * 2 + 1, none⟩ = some (.int .i64 pu) := fun n os => cell_grown hbw y1 n os
            have hw : IntKind.i64.wrap (k : Int) = (k : Int) := IntWalk.i64_in _ (by omega)
            have hw0 : (0 : Int) ≤ (k : Int) := by omega
            have hw1 : (k : Int) < (u.length : Int) := by omega
            have hw2 : (k : Int) + 1 < (u.length : Int) := by omega
            have hw3 : (0 : Int) ≤ (k : Int) + 1 := by omega
            have hw4 : ((k : Int) + 1).toNat = k + 1 := by omega
            have hw5 : (0 : Int) < (k : Int) + 1 := by omega
            go_wp2_with fail
            clear x0 x1 y1
            refine wp_region_quiet_grown (by assumption) (by kernel_rfl) ?_
            repeat (first | go_big_quiet_skip | quiet_step ((go_at_call 18; exact Calls.grown_of (C1.out _))))
            refine wpQuiet_nil ?_
            intro _ hw'
            obtain ⟨⟨nq, osq⟩, hw''⟩ := hw'
            subst hw''
            dsimp only
            have v0 := a0 nq osq
            have v1 := a1 nq osq
            have HGx : Hid (Gr W3 (Sort.grow (wr.drewN nq) osq)) := hg.out.trans ⟨nq, osq, rfl⟩
            clear a0 a1 a2 hg
            generalize Sort.grow (wr.drewN nq) osq = W4 at *
            go_wp2_with fail
            refine (C2.out _).mono ?_
            rintro e w5 ⟨rfl, hg5⟩
            have HG5 : Hid (Gr W3 w5) := HGx.out.trans hg5
            clear hg5
            cases cb with
            | true =>
              go_wp2_with fail
              go_roundw
              case rel => exact ⟨k + 1 + 1, by omega, by go_num, by rw [HS.out]; simp, HG5⟩
              case measure => simp [intOf]; omega
            | false =>
              go_wp2_with fail
              go_roundw
              case rel => exact ⟨k + 1 + 1, by omega, by go_num, by rw [HS.out]; simp, HG5⟩
              case measure => simp [intOf]; omega

        · obtain rfl : k = u.length := by omega
          have hT := Lib.hid (show cnt (u.take u.length) d = cnt u d by rw [List.take_length])
          rw [hT.out]
          clear hT
          have hc1 : cnt u d ≤ 1 := HC.out.1
          have hce : ((cnt u d : Int) == 1) = cvl := by
            rw [Bool.eq_iff_iff, ← HC.out.2, beq_iff_eq]; omega
          have HCE := Lib.hid hce
          clear hce
          generalize cnt u d = N at *
          have HRu4 := Lib.hid (HRu3.out.keep hg.out.below)
          have HR4 := Lib.hid (HR3.out.keep hg.out.below)
          have B4 := Lib.hid (B3.out.trans (hg.out.below.mono B3.out.size))
          clear HRu3 HR3 B3 hg HC
          obtain ⟨W4, rfl⟩ : ∃ W4 : World, W4 = wr := ⟨_, rfl⟩
          go_wp2_with fail
          go_loopw [12, 13] (fun v i wr => ∃ k : Nat, k ≤ l.length ∧ i = .int .i64 ((k : Int) - 1) ∧ Hid (wr.ownsRow W4.heap.size 41 2 v (2 * (l.length - k)) (flat (bk l k))) ∧ Hid (Below W4.heap.size W4 wr)) (fun _ i _ => (intOf i + 1).toNat)
          case atStart => exact ⟨l.length, Nat.le_refl _, rfl, by rw [bk_end, Nat.sub_self]; exact World.ownsRow_nil _ _ _ _, Below.refl _ _⟩
          case round =>
            obtain ⟨k, hk, rfl, hown, hbw⟩ := hrel
            cases k with
            | zero =>
              have hbl := bk_len l 0
              have HB0 := Lib.hid (show flat (bk l 0) = flat (bk l 0) from rfl)
              obtain ⟨hnn, A5, c5, rfl, hR5, _⟩ := Rd.of_own hown.out
              have HR5 := Lib.hid hR5
              have HRu5 := Lib.hid (HRu4.out.keep hbw.out)
              have B5 := Lib.hid (B4.out.trans (hbw.out.mono B4.out.size))
              clear hown hR5 hbw HRu4 HR4 B4 hnn
              rw [show (((0 : Nat) : Int) - 1) = -1 from rfl]
              have hpb := Lib.hid (show ∀ p ∈ bk l 0, prp p = true from fun p hp => HP.out p ((bk_mem l p).1 hp))
              have hbU := Lib.hid (fun (v : List (Int × Int)) (hv : UnOf (bk l 0) v) => (hv.congr (bk_cv l)).uniq HU.out)
              have hb60 : (bk l 0).length ≤ 1000 := by omega
              clear hbl HB0
              generalize bk l 0 = bb at *
              go_wp2_with fail
              refine (union_any A5 c5 bb _ hb60 hpb.out HR5.out).mono ?_
              rintro e w6 ⟨A6, c6, v, rfl, hV, hR6, hb6⟩
              obtain rfl := hbU.out v hV
              have HR6 := Lib.hid hR6
              have HRu6 := Lib.hid (HRu5.out.keep hb6)
              have B6 := Lib.hid (B5.out.trans (hb6.mono B5.out.size))
              clear hV hR6 hb6 HRu5 B5 HR5
              go_wp2_with fail
              refine (union_any A2 c2 v _ (by omega) HU.out.prps HRu6.out).mono ?_
              rintro e w7 ⟨A7, c7, v7, rfl, hV, hR7, hb7⟩
              obtain rfl := hV.uniq HU.out.self
              have HR7 := Lib.hid hR7
              have HRu7 := Lib.hid (HRu6.out.keep hb7)
              have HR67 := Lib.hid (HR6.out.keep hb7)
              have B7 := Lib.hid (B6.out.trans (hb7.mono B6.out.size))
              clear hV hR7 hb7 HRu6 B6 HR6
              have hce := HCE.out
              have hcle : (N : Int) ≤ 1 := by omega
              go_wp2_with fail
              refine (same_yes A2 A6 c2 c6 v7 _ (by omega) HRu7.out HR67.out).mono ?_
              rintro e w8 ⟨rfl, hg8⟩
              have HR8 := Lib.hid (HR7.out.keep hg8.below)
              have HRu8 := Lib.hid (HRu7.out.keep hg8.below)
              have B8 := Lib.hid (B7.out.trans (hg8.below.mono B7.out.size))
              clear hg8 HR7 HRu7 B7
              go_wp2_with fail
              refine (same_yes A2 A7 c2 c7 v7 _ (by omega) HRu8.out HR8.out).mono ?_
              rintro e w9 ⟨rfl, hg9⟩
              have B9 := Lib.hid (B8.out.trans (hg9.below.mono B8.out.size))
              clear hg9
              go_wp2_with fail
              go_ret
              exact ⟨rfl, B9.out⟩
            | succ k =>
              have hlt : k < l.length := by omega
              rw [show (((k + 1 : Nat) : Int) - 1) = (k : Int) by omega]
              rcases HR4.out with hA | ⟨bl, off, rfl, hbl, hca⟩
              · rw [hA] at hlt; simp at hlt
              obtain ⟨x0, x1⟩ := hca k hlt
              have y0 := cell_later (w := W4) (wx := wr) hbw.out x0
              have y1 := cell_later (w := W4) (wx := wr) hbw.out x1
              have HS := Lib.hid (bk_step l k hlt)
              have hpe : l[k] = (l[k].1, l[k].2) := rfl
              rw [hpe] at HS
              clear hpe hca x0 x1
              generalize l[k].1 = f at *
              generalize l[k].2 = u' at *
              have hwl : bl < wr.heap.size := Nat.lt_of_lt_of_le hbl hbw.out.size
              have hws : W4.heap.size ≤ wr.heap.size := hbw.out.size
              have ak : u12.ownBlock ≠ some bl := fun e => by have := (hown.out.lt bl e).1; omega
              have AK := Lib.hid ak
              clear ak
              have hk0 : (0 : Int) ≤ (k : Int) := Int.natCast_nonneg _
              have hk1 : (k : Int) < (l.length : Int) := by omega
              go_wp2_with fail
              go_region_held3 (fun w' => w'.cell? ⟨bl, off + k * 2, none⟩ = some (.int .i64 f) ∧ w'.cell? ⟨bl, off + k * 2 + 1, none⟩ = some (.int .i64 u'))
                (first
                  | go_keep
                  | (go_split_ands
                     refine ⟨?_, ?_⟩
                     · (rw [hgrow.cell_far _ (by simp; omega) (Ne.symm AK.out)]; assumption)
                     · (rw [hgrow.cell_far _ (by simp; omega) (Ne.symm AK.out)]; assumption)))
                ((refine step_append_lies _ (by rfl) _ _ _ (by rfl) W4.heap.size 41 i0 _ 2 16 Tryd.underlying36 hi0 hz0 hz1 hz2 rfl (by omega) u12 (2 * (l.length - (k + 1))) (flat (bk l (k + 1))) (by rfl) ((hown.out.alloc _).drew)
                    ⟨wr.heap.size, 0, none⟩ 2 2 [.int .i64 f, .int .i64 u', .int .i64 f, .int .i64 u'] (by rfl) (by rfl) (World.news_of_block (cs := #[.int .i64 f, .int .i64 u', .int .i64 f, .int .i64 u']) (t := 41) (fr := (0, 0)) (heap_alloc_new wr _)) (by simp [Value.oneCell'])
                    (by omega) (by unfold maxLen; omega) (by omega) (by simp; omega) (wr.heap.size + 1) (by simp) ?_; intro gg cap w1' hown1 hgrow hat hlt'))
              have HO : Hid (w1'.ownsRow W4.heap.size 41 2 (.slice (some ⟨gg, 0, none⟩) (2 * (l.length - (k + 1)) + 2) cap) (2 * (l.length - (k + 1)) + 2) (flat (bk l (k + 1)) ++ [.int .i64 f, .int .i64 u', .int .i64 f, .int .i64 u'])) := hown1
              have HBW : Hid (Below W4.heap.size W4 w1') := (((hbw.out.alloc hws _).drew).grown hgrow (by simp; omega) (fun k' hk' => (hown.out.lt k' hk').1))
              clear hown1 hgrow hat hlt'
              go_wp2_with fail
              go_roundw
              case rel =>
                refine ⟨k, by omega, rfl, ?_, HBW⟩
                have := HO.out
                rw [HS.out, flat_app, show 2 * (l.length - k) = 2 * (l.length - (k + 1)) + 2 by omega]
                exact this
              case measure => simp [intOf]
end Go.Proofs.YtjebbmnjegndkaaDoor
