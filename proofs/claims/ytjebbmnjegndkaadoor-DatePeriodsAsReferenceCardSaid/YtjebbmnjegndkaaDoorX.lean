/- The contract of the reference's Union: the sort. Under no condition. -/
import Derived.Test.YtjebbmnjegndkaaDoorR
import Derived.Test.YtjebbmnjegndkaaDoorUnC
namespace Go.Proofs.YtjebbmnjegndkaaDoor
open Go.RowKit

theorem flat_put (a b : List (Int × Int)) (z : Int × Int) (f u : Int) : ((flat (a ++ [z] ++ b)).set (a.length * 2) (.int .i64 f)).set (a.length * 2 + 1) (.int .i64 u) = flat (a ++ [(f, u)] ++ b) := by
  rw [List.append_assoc, List.append_assoc, flat_app, flat_app, List.set_append, if_neg (by rw [flat_len]; omega), flat_len, List.set_append, if_neg (by rw [flat_len]; omega), flat_len]
  rw [Nat.sub_self, show a.length * 2 + 1 - a.length * 2 = 1 by omega, flat_app a, flat_app [(f, u)]]
  rfl
theorem own_put {w : World} {base g cap n : Nat} {a b : List (Int × Int)} {z : Int × Int} (h : w.ownsRow base 41 2 (.slice (some ⟨g, 0, none⟩) n cap) n (flat (a ++ [z] ++ b))) (f u : Int) (j : Nat) (hj : j = a.length) :
    ((w.setCell ⟨g, j * 2, none⟩ (.int .i64 f)).setCell ⟨g, j * 2 + 1, none⟩ (.int .i64 u)).ownsRow base 41 2 (.slice (some ⟨g, 0, none⟩) n cap) n (flat (a ++ [(f, u)] ++ b)) := by
  subst hj
  have h1 := (h.stored (a.length * 2) (.int .i64 f)).1
  have h2 := (h1.stored (a.length * 2 + 1) (.int .i64 u)).1
  rwa [flat_put] at h2
theorem own_form {w : World} {base n : Nat} {v : Value} {xs : List Value} (h : w.ownsRow base 41 2 v n xs) (h0 : 0 < n) : ∃ g cap, v = .slice (some ⟨g, 0, none⟩) n cap ∧ base ≤ g ∧ g < w.heap.size := by
  rcases h.2 with ⟨_, e⟩ | ⟨g, cap, cur, rfl, _⟩
  · omega
  · exact ⟨g, cap, rfl, h.lt g rfl⟩
theorem own_slice {w : World} {base n : Nat} {v : Value} {xs : List Value} (h : w.ownsRow base 41 2 v n xs) : ∃ A cap, v = .slice A n cap := by
  rcases h.2 with ⟨rfl, e⟩ | ⟨g, cap, cur, rfl, _⟩
  · exact ⟨none, 0, by rw [e]⟩
  · exact ⟨_, _, rfl⟩

/-- what the reference's sort has made of the first k periods -/
def RRel (w : World) (l : List (Int × Int)) (v : Value) (k : Nat) (wr : World) : Prop :=
  ∃ r : List (Int × Int), r.Perm (l.take k) ∧ Srt r ∧ wr.ownsRow w.heap.size 41 2 v r.length (flat r) ∧ Below w.heap.size w wr ∧ ∀ p ∈ l.take k, prp p = true
/-- what the reference's Union leaves -/
def RPost (l : List (Int × Int)) (w : World) (e : Ending) (w' : World) : Prop :=
  ((∀ p ∈ l, prp p = true) ∧ UPost l w e w') ∨ ((l.any fun x => !prp x) = true ∧ e = .returned (.tuple #[.slice none 0 0, .int .i64 1]) ∧ Below w.heap.size w w')

set_option maxHeartbeats 16000000 in
set_option maxRecDepth 100000 in
theorem runion_any (A : Option Addr) (c : Nat) (l : List (Int × Int)) (w : World) (h1 : l.length ≤ 1000) (hR : Rd w A l) :
    Calls Tryd.prog 23 #[.slice A l.length c] w (RPost l w) := by
  obtain ⟨i0, hi0, hz0, hz1, hz2⟩ := info_parts info41
  have mixed : Tryd.prog.follows .mixedOrders = true := Tryd.sortP.mixed
  have hd : decide ((1000 : Int) < (l.length : Int)) = false := by simp; omega
  have HR := Lib.hid hR
  clear hR
  go_enter Tryd.func23, Tryd.ntmps23
  go_wp2_with fail
  go_loopw [4, 5] (fun v i wr => ∃ k : Nat, k ≤ l.length ∧ i = .int .i64 k ∧ Hid (RRel w l v k wr)) (fun _ i _ => l.length - (intOf i).toNat)
  case atStart => exact ⟨0, Nat.zero_le _, rfl, [], List.Perm.refl _, List.Pairwise.nil, World.ownsRow_nil _ _ _ _, Below.refl _ _, fun p hp => by simp at hp⟩
  case round =>
    obtain ⟨k, hk, rfl, hV⟩ := hrel
    obtain ⟨r, hperm, hsrt, hown, hbw, hprs⟩ := hV.out
    clear hV
    have hrl : r.length = k := by rw [hperm.length_eq, List.length_take]; omega
    have HRL := Lib.hid hrl
    have hr1 : r.length ≤ l.length := by omega
    have HPM := Lib.hid hperm
    have HST := Lib.hid hsrt
    have HOW := Lib.hid hown
    have HBW := Lib.hid hbw
    have HPR := Lib.hid hprs
    clear hperm hsrt hown hbw hprs hrl
    by_cases hlt : k < l.length
    · rcases HR.out with hA | ⟨b, off, rfl, hb, hca⟩
      · rw [hA] at hlt; simp at hlt
      obtain ⟨x0, x1⟩ := hca k hlt
      have y0 := cell_later (w := w) (wx := wr) HBW.out x0
      have y1 := cell_later (w := w) (wx := wr) HBW.out x1
      have C1 := Lib.hid (fun W => rproper_any l[k].1 l[k].2 W)
      have HTK := Lib.hid (take_succ' l k hlt)
      have hpe : l[k] = (l[k].1, l[k].2) := rfl
      have HME := Lib.hid (show (l[k].1, l[k].2) ∈ l from List.getElem_mem hlt)
      rw [hpe] at HTK
      clear hpe hca
      generalize l[k].1 = f at *
      generalize l[k].2 = u at *
      obtain ⟨A4, c4, rfl⟩ := own_slice HOW.out
      cases hpk : prp (f, u) with
      | false =>
        rw [hpk] at C1
        have hany := Lib.hid (show (l.any fun x => !prp x) = true from List.any_eq_true.2 ⟨(f, u), HME.out, by rw [hpk]; rfl⟩)
        clear hpk
        go_wp2_with fail
        refine (C1.out _).mono ?_
        rintro e w3 ⟨rfl, hg3⟩
        have B3 := Lib.hid (HBW.out.trans (hg3.below.mono HBW.out.size))
        clear hg3
        go_wp2_with fail
        go_ret2
        exact Or.inr ⟨hany.out, rfl, B3.out⟩
      | true =>
        rw [hpk] at C1
        have HPK := Lib.hid hpk
        clear hpk
        go_wp2_with fail
        refine (C1.out _).mono ?_
        rintro e w3 ⟨rfl, hg3⟩
        have O3 := Lib.hid (HOW.out.kept (hg3.grownBy none) (by cases A4 <;> simp [Value.ownBlock]))
        have B3 := Lib.hid (HBW.out.trans (hg3.below.mono HBW.out.size))
        clear hg3 HOW HBW y0 y1
        obtain ⟨wo, rfl⟩ : ∃ wo : World, wo = wr := ⟨_, rfl⟩
        go_wp2_with fail
        go_loopw [6] (fun q wx => ∃ kk : Nat, kk ≤ r.length ∧ q = .int .i64 kk ∧ Hid (∀ j (h : j < r.length), j < kk → r[j].1 ≤ f) ∧ Hid (wx.ownsRow w.heap.size 41 2 (.slice A4 r.length c4) r.length (flat r)) ∧ Hid (Below w.heap.size w wx)) (fun q _ => r.length - (intOf q).toNat)
        case atStart => exact ⟨0, Nat.zero_le _, rfl, fun j h h0 => absurd h0 (by omega), O3, B3⟩
        case round =>
          obtain ⟨kk, hkk, rfl, hle, hox, hbx⟩ := hrel
          by_cases hx : kk < r.length
          · obtain ⟨g, cap, hv, hg1, hg2⟩ := own_form hox.out (by omega)
            obtain ⟨rfl, rfl⟩ : A4 = some ⟨g, 0, none⟩ ∧ c4 = cap := by injection hv with e1 e2 e3; exact ⟨e1, e3⟩
            clear hv
            obtain ⟨fa0, _⟩ := flat_at r kk hx
            have y0 : wr.cell? ⟨g, kk * 2, none⟩ = some (.int .i64 r[kk].1) := by rw [hox.out.cellAt _ (by omega), fa0]
            have x0' := cell_later (w := w) (wx := wr) hbx.out x0
            clear fa0
            have hxi : (kk : Int) < (r.length : Int) := by omega
            have hki : (k : Int) < (l.length : Int) := by omega
            by_cases hc : r[kk].1 ≤ f
            · have HLE : Hid (∀ j (h : j < r.length), j < kk + 1 → r[j].1 ≤ f) := fun j h hj => by
                by_cases e : j = kk
                · subst e; exact hc
                · exact hle.out j h (by omega)
              generalize r[kk].1 = rf at y0 hc
              go_wp2_with fail
              go_quiet (fail)
              have OX : Hid ((wr.drewN nq).ownsRow w.heap.size 41 2 (.slice (some ⟨g, 0, none⟩) r.length c4) r.length (flat r)) := own_drewN hox.out nq
              have BX : Hid (Below w.heap.size w (wr.drewN nq)) := below_drewN' hbx.out nq
              go_wp2_with fail
              go_roundw
              case rel => exact ⟨kk + 1, by omega, by go_num, HLE, OX, BX⟩
              case measure => simp [intOf]; omega
            · have HSTOP := Lib.hid (show ∀ h : kk < r.length, (f, u).1 < r[kk].1 from fun _ => by show f < _; omega)
              have hcd : decide (r[kk].1 ≤ f) = false := by simpa using hc
              clear hc
              generalize r[kk].1 = rf at y0 hcd
              go_wp2_with fail
              go_quiet (fail)
              clear hcd y0 x0' hg1 hg2 hxi hki
              have OX := Lib.hid (own_drewN hox.out nq)
              have BX := Lib.hid (below_drewN' hbx.out nq)
              go_wp2_with (at_builtin; refine wpList_append_own _ rfl _ _ 36 rfl w.heap.size 41 i0 _ 2 16 Tryd.underlying36 hi0 hz0 hz1 hz2 rfl (by decide) _ r.length (flat r) rfl ?ao1 ⟨wr.heap.size, 0, none⟩ 1 1 [.int .i64 0, .int .i64 0] rfl rfl (two_new _ _ _ _ _ rfl) ?ac2 ?ac3 ?ac4 ?ac5 ?_)
              case ao1 => exact OX.out.alloc _
              case ac2 => first | exact ⟨rfl, rfl⟩ | (intro x hx; simp at hx; subst hx; rfl) | decide
              case ac3 => unfold maxLen; omega
              case ac4 => omega
              case ac5 => have := BX.out.size; simp at this ⊢; omega
              intro v5 wy hown5 hgrow5 _
              obtain ⟨g5, cap5, rfl, hg51, hg52⟩ := own_form hown5 (by omega)
              have B5 : Hid (Below w.heap.size w wy) := (BX.out.alloc BX.out.size _).grown hgrow5 (by have := BX.out.size; simp at this ⊢; omega) (fun k' hk' => (OX.out.lt k' hk').1)
              have O5 : Hid (wy.ownsRow w.heap.size 41 2 (.slice (some ⟨g5, 0, none⟩) (r.length + 1) cap5) (r.length + 1) (flat (r.take r.length ++ [(0, 0)] ++ r.drop r.length))) := by
                rw [List.take_length, List.drop_length, List.append_nil, flat_app]; exact hown5
              clear hown5 hgrow5 hg52 OX BX hox hbx
              go_wp2_with fail
              go_loopw [7] (fun j wz => ∃ (jj : Nat) (z : Int × Int), kk ≤ jj ∧ jj ≤ r.length ∧ j = .int .i64 jj ∧ Hid (wz.ownsRow w.heap.size 41 2 (.slice (some ⟨g5, 0, none⟩) (r.length + 1) cap5) (r.length + 1) (flat (r.take jj ++ [z] ++ r.drop jj))) ∧ Hid (Below w.heap.size w wz)) (fun j _ => (intOf j).toNat)
              case atStart => exact ⟨r.length, (0, 0), hkk, Nat.le_refl _, rfl, O5, B5⟩
              case round =>
                obtain ⟨jj, z, hj1, hj2, rfl, hoz, hbz⟩ := hrel
                have htl : (r.take jj).length = jj := by rw [List.length_take]; omega
                have hzat := flat_at (r.take jj ++ [z] ++ r.drop jj) jj (by simp; omega)
                have hze : (r.take jj ++ [z] ++ r.drop jj)[jj]'(by simp; omega) = z := by
                  rw [List.getElem_append_left (by simp; omega), List.getElem_append_right (by omega)]; simp [htl]
                rw [hze] at hzat
                have z0 : wr.cell? ⟨g5, jj * 2, none⟩ = some (.int .i64 z.1) := by rw [hoz.out.cellAt _ (by omega), hzat.1]
                have z1 : wr.cell? ⟨g5, jj * 2 + 1, none⟩ = some (.int .i64 z.2) := by rw [hoz.out.cellAt _ (by omega), hzat.2]
                have fz0 := hoz.out.frozenAt (jj * 2)
                have fz1 := hoz.out.frozenAt (jj * 2 + 1)
                have HTL := Lib.hid htl
                clear hzat hze htl
                generalize z.1 = zf at z0
                generalize z.2 = zu at z1
                by_cases hj : kk < jj
                · obtain ⟨j', rfl⟩ : ∃ j', jj = j' + 1 := ⟨jj - 1, by omega⟩
                  have hjl : j' < r.length := by omega
                  have hyat := flat_at (r.take (j' + 1) ++ [z] ++ r.drop (j' + 1)) j' (by simp; omega)
                  have hye : (r.take (j' + 1) ++ [z] ++ r.drop (j' + 1))[j']'(by simp; omega) = r[j'] := by
                    rw [List.getElem_append_left (by simp; omega), List.getElem_append_left (by simp; omega), List.getElem_take]
                  rw [hye] at hyat
                  have p0 : wr.cell? ⟨g5, j' * 2, none⟩ = some (.int .i64 r[j'].1) := by rw [hoz.out.cellAt _ (by omega), hyat.1]
                  have p1 : wr.cell? ⟨g5, j' * 2 + 1, none⟩ = some (.int .i64 r[j'].2) := by rw [hoz.out.cellAt _ (by omega), hyat.2]
                  clear hyat hye
                  have HSH := Lib.hid (sh_step r j' hjl)
                  have HPAIR := Lib.hid (show (r[j'].1, r[j'].2) = r[j'] from rfl)
                  have hon := Lib.hid (fun f' u' => own_put hoz.out f' u' (j' + 1) HTL.out.symm)
                  generalize hpf : r[j'].1 = pf at *
                  generalize hpu : r[j'].2 = pu at *
                  clear hpf hpu
                  go_wp2_with fail
                  go_roundw
                  case rel =>
                    refine ⟨j', r[j'], by omega, by omega, by go_num, ?_, (hbz.out.setCell (by exact hg51) _).setCell (by exact hg51) _⟩
                    have := hon.out pf pu
                    rw [HPAIR.out, HSH.out] at this
                    exact this
                  case measure => simp [intOf]
                · obtain rfl : kk = jj := by omega
                  have q0 := cell_later (w := w) (wx := wr) hbz.out x0
                  have q1 := cell_later (w := w) (wx := wr) hbz.out x1
                  have hins := Lib.hid (ins_ok r (f, u) kk HST.out hkk hle.out HSTOP.out)
                  go_wp2_with fail
                  go_roundw
                  case rel =>
                    have hon := own_put hoz.out f u kk HTL.out.symm
                    refine ⟨k + 1, by omega, by go_num, r.take kk ++ [(f, u)] ++ r.drop kk, ?_, hins.out.1, ?_, (hbz.out.setCell (by exact hg51) _).setCell (by exact hg51) _, ?_⟩
                    · rw [HTK.out]
                      exact hins.out.2.trans ((List.Perm.cons _ HPM.out).trans (List.perm_append_singleton _ _).symm)
                    · rw [show (r.take kk ++ [(f, u)] ++ r.drop kk).length = r.length + 1 by rw [hins.out.2.length_eq]; rfl]
                      exact hon
                    · intro p hp
                      rw [HTK.out, List.mem_append, List.mem_singleton] at hp
                      rcases hp with hp | rfl
                      · exact HPR.out p hp
                      · exact HPK.out
                  case measure => simp [intOf]; omega
          · obtain rfl : kk = r.length := by omega
            have HSTOP := Lib.hid (show ∀ h : r.length < r.length, (f, u).1 < r[r.length].1 from fun h => absurd h (by omega))
            go_wp2_with fail
            go_quiet (fail)
            have OX := Lib.hid (own_drewN hox.out nq)
            have BX := Lib.hid (below_drewN' hbx.out nq)
            go_wp2_with (at_builtin; refine wpList_append_own _ rfl _ _ 36 rfl w.heap.size 41 i0 _ 2 16 Tryd.underlying36 hi0 hz0 hz1 hz2 rfl (by decide) _ r.length (flat r) rfl ?bo1 ⟨wr.heap.size, 0, none⟩ 1 1 [.int .i64 0, .int .i64 0] rfl rfl (two_new _ _ _ _ _ rfl) ?bc2 ?bc3 ?bc4 ?bc5 ?_)
            case bo1 => exact OX.out.alloc _
            case bc2 => first | exact ⟨rfl, rfl⟩ | (intro x hx; simp at hx; subst hx; rfl) | decide
            case bc3 => unfold maxLen; omega
            case bc4 => omega
            case bc5 => have := BX.out.size; simp at this ⊢; omega
            intro v5 wy hown5 hgrow5 _
            obtain ⟨g5, cap5, rfl, hg51, hg52⟩ := own_form hown5 (by omega)
            have B5 : Hid (Below w.heap.size w wy) := (BX.out.alloc BX.out.size _).grown hgrow5 (by have := BX.out.size; simp at this ⊢; omega) (fun k' hk' => (OX.out.lt k' hk').1)
            have O5 : Hid (wy.ownsRow w.heap.size 41 2 (.slice (some ⟨g5, 0, none⟩) (r.length + 1) cap5) (r.length + 1) (flat (r.take r.length ++ [(0, 0)] ++ r.drop r.length))) := by
              rw [List.take_length, List.drop_length, List.append_nil, flat_app]; exact hown5
            clear hown5 hgrow5 hg52 OX BX hox hbx
            go_wp2_with fail
            go_loopw [7] (fun j wz => ∃ (jj : Nat) (z : Int × Int), r.length ≤ jj ∧ jj ≤ r.length ∧ j = .int .i64 jj ∧ Hid (wz.ownsRow w.heap.size 41 2 (.slice (some ⟨g5, 0, none⟩) (r.length + 1) cap5) (r.length + 1) (flat (r.take jj ++ [z] ++ r.drop jj))) ∧ Hid (Below w.heap.size w wz)) (fun j _ => (intOf j).toNat)
            case atStart => exact ⟨r.length, (0, 0), hkk, Nat.le_refl _, rfl, O5, B5⟩
            case round =>
              obtain ⟨jj, z, hj1, hj2, rfl, hoz, hbz⟩ := hrel
              have htl : (r.take jj).length = jj := by rw [List.length_take]; omega
              have hzat := flat_at (r.take jj ++ [z] ++ r.drop jj) jj (by simp; omega)
              have hze : (r.take jj ++ [z] ++ r.drop jj)[jj]'(by simp; omega) = z := by
                rw [List.getElem_append_left (by simp; omega), List.getElem_append_right (by omega)]; simp [htl]
              rw [hze] at hzat
              have z0 : wr.cell? ⟨g5, jj * 2, none⟩ = some (.int .i64 z.1) := by rw [hoz.out.cellAt _ (by omega), hzat.1]
              have z1 : wr.cell? ⟨g5, jj * 2 + 1, none⟩ = some (.int .i64 z.2) := by rw [hoz.out.cellAt _ (by omega), hzat.2]
              have fz0 := hoz.out.frozenAt (jj * 2)
              have fz1 := hoz.out.frozenAt (jj * 2 + 1)
              have HTL := Lib.hid htl
              clear hzat hze htl
              generalize z.1 = zf at z0
              generalize z.2 = zu at z1
              by_cases hj : r.length < jj
              · exfalso; omega
              · obtain rfl : jj = r.length := by omega
                have q0 := cell_later (w := w) (wx := wr) hbz.out x0
                have q1 := cell_later (w := w) (wx := wr) hbz.out x1
                have hins := Lib.hid (ins_ok r (f, u) r.length HST.out hkk hle.out HSTOP.out)
                go_wp2_with fail
                go_roundw
                case rel =>
                  have hon := own_put hoz.out f u r.length HTL.out.symm
                  refine ⟨k + 1, by omega, by go_num, r.take r.length ++ [(f, u)] ++ r.drop r.length, ?_, hins.out.1, ?_, (hbz.out.setCell (by exact hg51) _).setCell (by exact hg51) _, ?_⟩
                  · rw [HTK.out]
                    exact hins.out.2.trans ((List.Perm.cons _ HPM.out).trans (List.perm_append_singleton _ _).symm)
                  · rw [show (r.take r.length ++ [(f, u)] ++ r.drop r.length).length = r.length + 1 by rw [hins.out.2.length_eq]; rfl]
                    exact hon
                  · intro p hp
                    rw [HTK.out, List.mem_append, List.mem_singleton] at hp
                    rcases hp with hp | rfl
                    · exact HPR.out p hp
                    · exact HPK.out
                case measure => simp [intOf]; omega
    · obtain rfl : k = l.length := by omega
      have hpm : r.Perm l := by have := HPM.out; rwa [List.take_length] at this
      have hpl : ∀ p ∈ l, prp p = true := by have := HPR.out; rwa [List.take_length] at this
      have hU := Lib.hid (UnOf.of_fold hpm HST.out hpl)
      have hpr : ∀ p ∈ r, prp p = true := fun p hp => hpl p (hpm.mem_iff.1 hp)
      have hRC := Lib.hid (show ∀ k, RC ((r.take k).foldl rst []) from fun k => (fold_ok (r.take k) (HST.out.sublist (List.take_sublist k r)) (fun p hp => hpr p (List.mem_of_mem_take hp)) [] trivial (fun q hq => by simp at hq)).1)
      have HPL := Lib.hid hpl
      have HPRR := Lib.hid hpr
      clear hpm hpl hpr HPM HPR HST
      obtain ⟨A4, c4, rfl⟩ := own_slice HOW.out
      have hrl1 : r.length ≤ 1000 := by omega
      obtain ⟨W5, rfl⟩ : ∃ W5 : World, W5 = wr := ⟨_, rfl⟩
      go_wp2_with fail
      go_loopw [8, 9] (fun v i wz => ∃ k : Nat, k ≤ r.length ∧ i = .int .i64 k ∧ Hid (URel W5 r v k wz)) (fun _ i _ => r.length - (intOf i).toNat)
      case atStart => exact ⟨0, Nat.zero_le _, rfl, World.ownsRow_nil _ _ _ _, Below.refl _ _⟩
      case round =>
        obtain ⟨k, hk', rfl, hV⟩ := hrel
        by_cases hlt : k < r.length
        · obtain ⟨hown, hbw⟩ := hV.out
          obtain ⟨g, cap, hv, hg1, hg2⟩ := own_form HOW.out (by omega)
          obtain ⟨rfl, rfl⟩ : A4 = some ⟨g, 0, none⟩ ∧ c4 = cap := by injection hv with e1 e2 e3; exact ⟨e1, e3⟩
          clear hv hg1
          obtain ⟨fa0, fa1⟩ := flat_at r k hlt
          have cf0 : W5.cell? ⟨g, k * 2, none⟩ = some (.int .i64 r[k].1) := by rw [HOW.out.cellAt _ (by omega), fa0]
          have cu0 : W5.cell? ⟨g, k * 2 + 1, none⟩ = some (.int .i64 r[k].2) := by rw [HOW.out.cellAt _ (by omega), fa1]
          have cf := cell_later (w := W5) (wx := wr) hbw cf0
          have cu := cell_later (w := W5) (wx := wr) hbw cu0
          have hF := Lib.hid (fold_succ r k hlt)
          have hal : ((r.take k).foldl rst []).length ≤ 1000 := by have := fold_len (r.take k) []; simp at this; omega
          have hrc := Lib.hid (hRC.out k)
          have hpp : prp (r[k].1, r[k].2) = true := HPRR.out _ (List.getElem_mem hlt)
          have cp := Lib.hid (fun W => rend_any r[k].1 r[k].2 W hpp)
          have hpe : r[k] = (r[k].1, r[k].2) := rfl
          rw [hpe] at hF
          clear fa0 fa1 cf0 cu0 hpp hpe
          generalize (r.take k).foldl rst [] = acc at *
          generalize r[k].1 = f at *
          generalize r[k].2 = u at *
          have hgl : g < wr.heap.size := Nat.lt_of_lt_of_le hg2 hbw.size
          have hki : (k : Int) < (r.length : Int) := by omega
          have hOW := Lib.hid hown
          have hBW := Lib.hid hbw
          clear hown hbw hV
          cases acc with
          | nil =>
            obtain ⟨A', c', rfl⟩ : ∃ A' c', u8 = .slice A' 0 c' := own_slice hOW.out
            go_wp2_with fail
            go_quiet (fail)
            go_wp2_with (at_builtin; refine wpList_append_own _ rfl _ _ 36 rfl W5.heap.size 41 i0 _ 2 16 Tryd.underlying36 hi0 hz0 hz1 hz2 rfl (by decide) _ 0 [] rfl ?eo1 ⟨wr.heap.size, 0, none⟩ 1 1 [.int .i64 f, .int .i64 u] rfl rfl (two_new _ _ _ _ _ rfl) ?ec2 ?ec3 ?ec4 ?ec5 ?_)
            case eo1 => exact (own_drewN hOW.out nq).alloc _
            case ec2 => first | exact ⟨rfl, rfl⟩ | (intro x hx; simp at hx; rcases hx with rfl | rfl <;> rfl)
            case ec3 => unfold maxLen; omega
            case ec4 => omega
            case ec5 => have := hBW.out.size; simp at this ⊢; omega
            intro v' wx hown' hgrow _
            have hX := Lib.hid hown'
            have hGX := Lib.hid hgrow
            clear hown' hgrow
            go_wp2_with fail
            go_roundw
            case rel =>
              refine ⟨k + 1, by omega, by go_num, urel_app (acc := []) hF.out rfl rfl hX.out ?_⟩
              have hbs := hBW.out.size
              refine (((below_drewN' hBW.out nq).alloc (by simp at hbs ⊢; omega) _).grown hGX.out (by simp at hbs ⊢; omega) ?_)
              intro k' hk''
              exact (hOW.out.lt k' hk'').1
            case measure => simp [intOf]; omega
          | cons q t =>
            obtain ⟨g', c', rfl, hg'1, hg'2⟩ := own_form hOW.out (by simp)
            obtain ⟨qf, qu⟩ := q
            have htl : t.length + 1 ≤ 1000 := hal
            clear hal
            have e : ((qf, qu) :: t).reverse = t.reverse ++ [(qf, qu)] := List.reverse_cons
            have hOW2 : Hid (wr.ownsRow W5.heap.size 41 2 (.slice (some ⟨g', 0, none⟩) (t.length + 1) c') (t.length + 1) (flat (t.reverse ++ [(qf, qu)]))) := by
              have := hOW.out; rw [e] at this; exact this
            clear e hOW
            have dq := flat_at (t.reverse ++ [(qf, qu)]) t.length (by simp)
            have dq0 : wr.cell? ⟨g', t.length * 2, none⟩ = some (.int .i64 qf) := by
              rw [hOW2.out.cellAt _ (by omega), dq.1]; simp
            have dq1 : wr.cell? ⟨g', t.length * 2 + 1, none⟩ = some (.int .i64 qu) := by
              rw [hOW2.out.cellAt _ (by omega), dq.2]; simp
            clear dq
            have a0 : ∀ n os, (Sort.grow (wr.drewN n) os).cell? ⟨g, k * 2, none⟩ = some (.int .i64 f) := fun n os => cell_grown hgl cf n os
            have a1 : ∀ n os, (Sort.grow (wr.drewN n) os).cell? ⟨g, k * 2 + 1, none⟩ = some (.int .i64 u) := fun n os => cell_grown hgl cu n os
            have d0 : ∀ n os, (Sort.grow (wr.drewN n) os).cell? ⟨g', t.length * 2, none⟩ = some (.int .i64 qf) := fun n os => cell_grown hg'2 dq0 n os
            have d1 : ∀ n os, (Sort.grow (wr.drewN n) os).cell? ⟨g', t.length * 2 + 1, none⟩ = some (.int .i64 qu) := fun n os => cell_grown hg'2 dq1 n os
            have ce := Lib.hid (fun W => rend_any qf qu W hrc.out.head)
            have he := Lib.hid (show rst ((qf, qu) :: t) (f, u) = _ from rst_cons _ _ _)
            generalize en (qf, qu) = eq at *
            generalize en (f, u) = ep at *
            have hw : IntKind.i64.wrap (t.length : Int) = (t.length : Int) := IntWalk.i64_in _ (by omega)
            have hw0 : (0 : Int) ≤ (t.length : Int) := by omega
            have hw1 : (t.length : Int) < (t.length : Int) + 1 := by omega
            have hw5 : (0 : Int) < (t.length : Int) + 1 := by omega
            by_cases c1 : f ≤ eq
            · go_wp2_with fail
              go_quiet_grown ((go_at_call 37; exact Calls.grown_of (ce.out _)))
              dsimp only
              have hg1' : Gr wr (Sort.grow (wr.drewN nq) osq) := ⟨nq, osq, rfl⟩
              have e0 := a0 nq osq
              have e1 := a1 nq osq
              have e2 := d0 nq osq
              have e3 := d1 nq osq
              have oB := Lib.hid (hOW2.out.kept (hg1'.grownBy none) (Or.inr (by simp [Value.ownBlock])))
              have bB := Lib.hid (hBW.out.trans (hg1'.below.mono hBW.out.size))
              have hsz : g < (Sort.grow (wr.drewN nq) osq).heap.size := by have := hg1'.below.size; omega
              have hsg : g' < (Sort.grow (wr.drewN nq) osq).heap.size := by have := hg1'.below.size; omega
              clear a0 a1 d0 d1 hg1' dq0 dq1 cf cu hOW2 hBW
              generalize Sort.grow (wr.drewN nq) osq = W1 at *
              have a0 : ∀ n os, (Sort.grow (W1.drewN n) os).cell? ⟨g, k * 2, none⟩ = some (.int .i64 f) := fun n os => cell_grown hsz e0 n os
              have a1 : ∀ n os, (Sort.grow (W1.drewN n) os).cell? ⟨g, k * 2 + 1, none⟩ = some (.int .i64 u) := fun n os => cell_grown hsz e1 n os
              have d0 : ∀ n os, (Sort.grow (W1.drewN n) os).cell? ⟨g', t.length * 2, none⟩ = some (.int .i64 qf) := fun n os => cell_grown hsg e2 n os
              have d1 : ∀ n os, (Sort.grow (W1.drewN n) os).cell? ⟨g', t.length * 2 + 1, none⟩ = some (.int .i64 qu) := fun n os => cell_grown hsg e3 n os
              by_cases c2 : eq < ep
              · have HF := Lib.hid (hF.out.trans (he.out.trans (by rw [if_pos c1, if_pos c2])))
                go_wp2_with fail
                go_quiet_grown (((first | (go_at_call_of 37 (Value.agg #[Value.int IntKind.i64 qf, Value.int IntKind.i64 qu]); exact Calls.grown_of (ce.out _)) | (go_at_call_of 37 (Value.agg #[Value.int IntKind.i64 f, Value.int IntKind.i64 u]); exact Calls.grown_of (cp.out _)))))
                dsimp only
                have hg2' : Gr W1 (Sort.grow (W1.drewN nq) osq) := ⟨nq, osq, rfl⟩
                have x1' := a1 nq osq
                have x3' := d1 nq osq
                have oC := Lib.hid (oB.out.kept (hg2'.grownBy none) (Or.inr (by simp [Value.ownBlock])))
                have bC := Lib.hid (bB.out.trans (hg2'.below.mono bB.out.size))
                clear a0 a1 d0 d1 hg2' oB bB e0 e1 e2 e3 ce cp
                generalize Sort.grow (W1.drewN nq) osq = W2 at *
                have fz := oC.out.frozenAt (t.length * 2 + 1)
                clear hw hw0 hw1 hw5
                go_wp2_with fail
                go_roundw
                case rel =>
                  refine ⟨k + 1, by omega, by go_num, urel_same HF.out ?_ (bC.out.setCell (by exact hg'1) _)⟩
                  have := (oC.out.stored (t.length * 2 + 1) (.int .i64 u)).1
                  rw [List.reverse_cons, ← flat_set t.reverse qf qu u, List.length_reverse]
                  exact this
                case measure => simp [intOf]; omega
              · have HF := Lib.hid (hF.out.trans (he.out.trans (by rw [if_pos c1, if_neg c2])))
                go_wp2_with fail
                go_quiet_grown (((first | (go_at_call_of 37 (Value.agg #[Value.int IntKind.i64 qf, Value.int IntKind.i64 qu]); exact Calls.grown_of (ce.out _)) | (go_at_call_of 37 (Value.agg #[Value.int IntKind.i64 f, Value.int IntKind.i64 u]); exact Calls.grown_of (cp.out _)))))
                dsimp only
                have hg2' : Gr W1 (Sort.grow (W1.drewN nq) osq) := ⟨nq, osq, rfl⟩
                have oC := Lib.hid (oB.out.kept (hg2'.grownBy none) (Or.inr (by simp [Value.ownBlock])))
                have bC := Lib.hid (bB.out.trans (hg2'.below.mono bB.out.size))
                clear a0 a1 d0 d1 hg2' oB bB e0 e1 e2 e3 ce cp
                generalize Sort.grow (W1.drewN nq) osq = W2 at *
                clear hw hw0 hw1 hw5
                go_wp2_with fail
                go_roundw
                case rel =>
                  refine ⟨k + 1, by omega, by go_num, urel_same HF.out ?_ bC.out⟩
                  rw [List.reverse_cons]
                  exact oC.out
                case measure => simp [intOf]; omega
            · have HF := Lib.hid (hF.out.trans (he.out.trans (by rw [if_neg c1])))
              have hb1 : decide (f ≤ eq) = false := by simpa using c1
              go_wp2_with fail
              go_quiet_grown ((go_at_call 37; exact Calls.grown_of (ce.out _)))
              dsimp only
              have hg1' : Gr wr (Sort.grow (wr.drewN nq) osq) := ⟨nq, osq, rfl⟩
              have e0 := a0 nq osq
              have e1 := a1 nq osq
              have oB := Lib.hid (hOW2.out.kept (hg1'.grownBy none) (Or.inr (by simp [Value.ownBlock])))
              have bB := Lib.hid (hBW.out.trans (hg1'.below.mono hBW.out.size))
              clear a0 a1 d0 d1 hg1' dq0 dq1 cf cu hOW2 hBW hw hw0 hw1 hw5 ce cp
              generalize Sort.grow (wr.drewN nq) osq = W1 at *
              go_wp2_with (at_builtin; refine wpList_append_own _ rfl _ _ 36 rfl W5.heap.size 41 i0 _ 2 16 Tryd.underlying36 hi0 hz0 hz1 hz2 rfl (by decide) _ (t.length + 1) (flat (t.reverse ++ [(qf, qu)])) rfl ?fo1 ⟨W1.heap.size, 0, none⟩ 1 1 [.int .i64 f, .int .i64 u] rfl rfl (two_new _ _ _ _ _ rfl) ?fc2 ?fc3 ?fc4 ?fc5 ?_)
              case fo1 => exact oB.out.alloc _
              case fc2 => first | exact ⟨rfl, rfl⟩ | (intro x hx; simp at hx; rcases hx with rfl | rfl <;> rfl)
              case fc3 => unfold maxLen; omega
              case fc4 => omega
              case fc5 => have := bB.out.size; simp; omega
              intro v' wx hown' hgrow _
              have hX := Lib.hid hown'
              have hGX := Lib.hid hgrow
              clear hown' hgrow
              go_wp2_with fail
              go_roundw
              case rel =>
                refine ⟨k + 1, by omega, by go_num, urel_app (acc := (qf, qu) :: t) HF.out rfl (by rw [List.reverse_cons]) hX.out ?_⟩
                have hbs := bB.out.size
                refine ((bB.out.alloc hbs _).grown hGX.out (by simp; omega) ?_)
                intro k' hk''
                exact (oB.out.lt k' hk'').1
              case measure => simp [intOf]; omega
        · obtain rfl : k = r.length := by omega
          have HV := hV
          clear hV
          obtain ⟨A8, c8, rfl⟩ := own_slice HV.out.1
          go_wp2_with fail
          go_ret2
          obtain ⟨hown, hbw⟩ := HV.out
          rw [List.take_length] at hown
          refine Or.inl ⟨HPL.out, A8, c8, (r.foldl rst []).reverse, ?_, hU.out, ?_, HBW.out.trans (hbw.mono HBW.out.size)⟩
          · rw [List.length_reverse, List.take_length]
            rfl
          · have h' : wr.ownsRow W5.heap.size 41 2 (.slice A8 (r.foldl rst []).length c8) (r.foldl rst []).length (flat (r.foldl rst []).reverse) := hown
            obtain ⟨_, A9, c9, e9, hR9, _⟩ := Rd.of_own h'
            injection e9 with e1 e2 e3
            rw [e1]; exact hR9
end Go.Proofs.YtjebbmnjegndkaaDoor
