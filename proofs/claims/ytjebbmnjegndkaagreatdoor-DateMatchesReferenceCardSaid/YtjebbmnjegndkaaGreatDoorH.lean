/- The contract of Union. Under no condition. -/
import Derived.Test.YtjebbmnjegndkaaGreatDoorG
import Derived.Deep.DeepCutAuto
import Derived.IntWalk
namespace Go.Proofs.YtjebbmnjegndkaaGreatDoor
open Go.RowKit Go.Shelf

/-- the copy that Clone makes -/
theorem clone_any (b off c : Nat) (l : List (Int × Int)) (w : World) (h0 : 0 < l.length) (h1 : l.length ≤ 1000)
    (hc : ∀ j (h : j < l.length), w.cell? ⟨b, off + j * 2, none⟩ = some (.int .i64 l[j].1) ∧ w.cell? ⟨b, off + j * 2 + 1, none⟩ = some (.int .i64 l[j].2)) :
    Calls Tryz.prog 34 #[.slice (some ⟨b, off, none⟩) l.length c] w fun e w' => ∃ g cap, e = .returned (.slice (some ⟨g, 0, none⟩) l.length cap) ∧ w'.ownsRow w.heap.size 38 2 (.slice (some ⟨g, 0, none⟩) l.length cap) l.length (flat l) ∧ Below w.heap.size w w' := by
  obtain ⟨i0, hi, hz0, hz1, hz2⟩ := info_parts info41
  have hcon := AnyE.slices_Clone Tryz.cloneP i0 _ 2 16 hi hz0 hz1 hz2 rfl (by decide) Tryz.sizeOf38 b off l.length c (flat l) w (flat_len l) (by unfold maxLen; omega) (by omega)
    (fun j u hj => by
      have hjl : j < l.length * 2 := by
        have := (List.getElem?_eq_some_iff.1 hj).1
        rwa [flat_len] at this
      obtain ⟨f0, f1⟩ := flat_at l (j / 2) (by omega)
      obtain ⟨c0, c1⟩ := hc (j / 2) (by omega)
      rcases Nat.mod_two_eq_zero_or_one j with hm | hm
      · have hj2 : j = j / 2 * 2 := by omega
        rw [← hj2] at f0 c0
        rw [hj] at f0
        rw [c0, ← f0]
      · have hj2 : j = j / 2 * 2 + 1 := by omega
        rw [← hj2] at f1
        rw [show off + j / 2 * 2 + 1 = off + j by omega] at c1
        rw [hj] at f1
        rw [c1, ← f1]) (flat_one l)
  change Calls Tryz.prog 34 _ _ _ at hcon
  refine hcon.mono ?_
  rintro e w' ⟨v', rfl, hown, hne, hb⟩
  change w'.ownsRow w.heap.size 38 2 v' l.length (flat l) at hown
  rcases hown.2 with ⟨h, _⟩ | ⟨g, cap, cur, rfl, _⟩
  · exact absurd h hne
  · exact ⟨g, cap, rfl, hown, hb⟩

theorem any_no (l : List (Int × Int)) (hp : ∀ p ∈ l, prp p = true) : ((l.take l.length).any fun x => !prp x) = false := by
  rw [List.take_length, List.any_eq_false]
  intro x hx
  simp [hp x hx]

theorem has_any (b off c : Nat) (l : List (Int × Int)) (w : World) (h1 : l.length ≤ 1000) (hb : b < w.heap.size)
    (hc : ∀ j (h : j < l.length), w.cell? ⟨b, off + j * 2, none⟩ = some (.int .i64 l[j].1) ∧ w.cell? ⟨b, off + j * 2 + 1, none⟩ = some (.int .i64 l[j].2)) :
    Calls Tryz.prog 31 #[.slice (some ⟨b, off, none⟩) l.length c, .func (.func 32) #[] #[]] w fun e w' => e = .returned (.bool (l.any fun x => !prp x)) ∧ Below w.heap.size w w' := by
  have eg : ∀ args w, (callFunc 32 args).run Tryz.prog w = .ok (.enter 32 args) w := enters_of Tryz.func32 (by kernel_rfl) rfl
  have hcon := AnyQ.slices_ContainsFunc Tryz.anyP 2 Tryz.isAgg38 Tryz.sizeOf38 enc2 (fun _ => rfl) (fun x => !prp x) 32 #[] eg b off l.length c l w (pred32 w) (Nat.le_refl _) (by omega) hb (fun j hj i v hi => by
    obtain ⟨c0, c1⟩ := hc j hj
    rw [getElem!_pos l j hj] at hi
    match i, hi with
    | 0, hi => simp [enc2] at hi; rw [← hi]; exact c0
    | 1, hi => simp [enc2] at hi; rw [← hi]; exact c1
    | i + 2, hi => simp [enc2] at hi)
  change Calls Tryz.prog 31 _ _ _ at hcon
  rw [List.take_length] at hcon
  exact hcon

theorem own_drewN {w : World} {base : Nat} {e : TypeId} {size : Nat} {v : Value} {n : Nat} {xs : List Value} (h : w.ownsRow base e size v n xs) (m : Nat) : (w.drewN m).ownsRow base e size v n xs := h
theorem below_drewN' {B : Nat} {a w : World} (h : Below B a w) (n : Nat) : Below B a (w.drewN n) := ⟨h.os, h.tape, h.output, h.size, h.block⟩
theorem own_base {w : World} {base base' : Nat} {e : TypeId} {size : Nat} {v : Value} {n : Nat} {xs : List Value} (h : w.ownsRow base e size v n xs) (hb : base' ≤ base) : w.ownsRow base' e size v n xs := by
  refine ⟨h.1, ?_⟩
  rcases h.2 with h' | ⟨g, cap, cur, h1, h2, h3⟩
  · exact Or.inl h'
  · exact Or.inr ⟨g, cap, cur, h1, by omega, h3⟩
theorem two_new (w : World) (a b : Value) (t : TypeId) (n : Nat) (hn : n = w.heap.size) : ∀ j u, [a, b][j]? = some u → (w.alloc (.cells #[a, b] t)).cell? ((⟨n, 0, none⟩ : Addr).add j) = some u := by
  subst hn; exact cell_two_new _ _ _ _
theorem Gr.grownBy {w w' : World} (h : Gr w w') (row : Option Nat) : w.grownBy w' row := by
  have hb := h.below
  exact ⟨hb.os, hb.tape, hb.output, hb.size, fun i hi _ => hb.block i hi⟩
theorem urel_same {W0 w' : World} {s acc : List (Int × Int)} {k : Nat} {v' : Value} (hF : (s.take (k + 1)).foldl rst [] = acc)
    (hown : w'.ownsRow W0.heap.size 38 2 v' acc.length (flat acc.reverse)) (hb : Below W0.heap.size W0 w') : URel W0 s v' (k + 1) w' := by
  unfold URel; rw [hF]; exact ⟨hown, hb⟩
theorem urel_app {W0 w' : World} {s acc : List (Int × Int)} {k : Nat} {v' : Value} {f u : Int} {N : Nat} {xs : List Value} (hF : (s.take (k + 1)).foldl rst [] = (f, u) :: acc) (hN : N = acc.length) (hxs : xs = flat acc.reverse)
    (hown : w'.ownsRow W0.heap.size 38 2 v' (N + 1) (xs ++ [.int .i64 f, .int .i64 u])) (hb : Below W0.heap.size W0 w') : URel W0 s v' (k + 1) w' := by
  unfold URel
  rw [hF]
  refine ⟨?_, hb⟩
  rw [List.length_cons, List.reverse_cons, flat_app]
  subst hN hxs
  exact hown

set_option maxHeartbeats 2000000 in
set_option maxRecDepth 100000 in
theorem union_some (b off c : Nat) (l : List (Int × Int)) (w : World) (h0 : 0 < l.length) (h1 : l.length ≤ 1000) (hp : ∀ p ∈ l, prp p = true) (hb : b < w.heap.size)
    (hc : ∀ j (h : j < l.length), w.cell? ⟨b, off + j * 2, none⟩ = some (.int .i64 l[j].1) ∧ w.cell? ⟨b, off + j * 2 + 1, none⟩ = some (.int .i64 l[j].2)) :
    Calls Tryz.prog 17 #[.slice (some ⟨b, off, none⟩) l.length c] w fun e w' => ∃ v u, e = .returned (.tuple #[v, .int .i64 0]) ∧ UnOf l u ∧ w'.ownsRow w.heap.size 38 2 v u.length (flat u) ∧ Below w.heap.size w w' := by
  obtain ⟨i0, hi, hz0, hz1, hz2⟩ := info_parts info41
  have C1 := Lib.hid (has_any b off c l w h1 hb hc)
  have hn : (l.any fun x => !prp x) = false := by
    rw [List.any_eq_false]; intro x hx; simp [hp x hx]
  rw [hn] at C1
  clear hn
  have hcH := Lib.hid hc
  have hpH := Lib.hid hp
  have hd : decide ((1000 : Int) < (l.length : Int)) = false := by simp; omega
  clear hc hp
  go_enter Tryz.func17, Tryz.ntmps17
  go_wp2_with fail
  refine C1.out.mono ?_
  rintro e w1 ⟨rfl, hb1⟩
  go_wp2_with fail
  refine (clone_any b off c l _ h0 h1 (fun j hj => ?_)).mono ?_
  · rw [hb1.cell (p := ⟨b, off + j * 2, none⟩) hb, hb1.cell (p := ⟨b, off + j * 2 + 1, none⟩) hb]
    exact hcH.out j hj
  rintro e w2 ⟨g, cap, rfl, hown, hb2⟩
  go_wp2_with fail
  refine (sort_any w1.heap.size g cap l w2 h1 hpH.out hb2.size hown).mono ?_
  rintro e w3 ⟨rfl, s, hperm, hsort, hS, hb3⟩
  have hlen := Lib.hid hperm.length_eq
  have h1s : s.length ≤ 1000 := by rw [hlen.out]; exact h1
  have hU := Lib.hid (UnOf.of_fold hperm hsort hpH.out)
  have hSH := Lib.hid hS
  have hbb := Lib.hid ((hb1.trans (hb2.mono hb1.size)).trans (hb3.mono hb1.size))
  clear hperm hsort hS hown hb1 hb2 hb3 C1 hcH hpH
  rw [← hlen.out] at *
  go_wp2_with fail
  go_loopw [5, 20] (fun v i wr => ∃ k : Nat, k ≤ s.length ∧ i = .int .i64 k ∧ Hid (URel w3 s v k wr)) (fun _ i _ => s.length - (intOf i).toNat)
  case atStart => exact ⟨0, Nat.zero_le _, rfl, World.ownsRow_nil _ _ _ _, Below.refl _ _⟩
  case round =>
    obtain ⟨k, hk, rfl, hV⟩ := hrel
    by_cases hlt : k < s.length
    · obtain ⟨hown, hbw⟩ := hV.out
      obtain ⟨cf, cu⟩ := hSH.out.2 k hlt
      rw [← hbw.cell (p := ⟨g, k * 2, none⟩) hSH.out.1] at cf
      rw [← hbw.cell (p := ⟨g, k * 2 + 1, none⟩) hSH.out.1] at cu
      have hF := Lib.hid (fold_succ s k hlt)
      have hal : ((s.take k).foldl rst []).length ≤ 1000 := by have := fold_len (s.take k) []; simp at this; omega
      generalize (s.take k).foldl rst [] = acc at *
      generalize hpe : s[k] = p at *
      obtain ⟨f, u⟩ := p
      dsimp only at cf cu
      have hgl : g < wr.heap.size := Nat.lt_of_lt_of_le hSH.out.1 hbw.size
      have hne : g ≠ wr.heap.size := by omega
      have hOW := Lib.hid hown
      have hBW := Lib.hid hbw
      clear hown hbw hV hpe
      cases acc with
      | nil =>
        obtain ⟨A', c', rfl⟩ : ∃ A' c', u5 = .slice A' 0 c' := by
          rcases hOW.out.2 with ⟨rfl, _⟩ | ⟨g', cap', cur, rfl, _⟩
          · exact ⟨_, _, rfl⟩
          · exact ⟨_, _, rfl⟩
        go_wp2_with fail
        go_quiet (fail)
        go_wp2_with (at_builtin; refine wpList_append_own _ rfl _ _ 34 rfl w3.heap.size 38 i0 _ 2 16 Tryz.underlying34 hi hz0 hz1 hz2 rfl (by decide) _ 0 [] rfl ?o1 ⟨wr.heap.size + 1, 0, none⟩ 1 1 [.int .i64 f, .int .i64 u] rfl rfl ?c1 ?c2 ?c3 ?c4 ?c5 ?_)
        case o1 => exact (own_drewN (hOW.out.alloc _) nq).alloc _
        case c1 => exact two_new _ _ _ _ _ (by simp)
        case c2 => intro x hx; simp at hx; rcases hx with rfl | rfl <;> rfl
        case c3 => unfold maxLen; omega
        case c4 => omega
        case c5 => have := hBW.out.size; simp; omega
        intro v' wx hown' hgrow _
        have hX := Lib.hid hown'
        have hGX := Lib.hid hgrow
        clear hown' hgrow
        go_wp2_with fail
        go_roundw
        case rel =>
          refine ⟨k + 1, by omega, by go_num, urel_app (acc := []) hF.out rfl rfl hX.out ?_⟩
          have hbs := hBW.out.size
          refine (((below_drewN' (hBW.out.alloc hbs _) nq).alloc (by simp; omega) _).grown hGX.out (by simp; omega) ?_)
          intro k' hk'
          exact (hOW.out.lt k' hk').1
        case measure => simp [intOf]; omega
      | cons q t =>
        obtain ⟨g', c', rfl, hg'1, hg'2⟩ : ∃ g' c', u5 = .slice (some ⟨g', 0, none⟩) (t.length + 1) c' ∧ w3.heap.size ≤ g' ∧ g' < wr.heap.size := by
          rcases hOW.out.2 with ⟨rfl, h⟩ | ⟨g', cap', cur, rfl, hb', _⟩
          · simp at h
          · exact ⟨_, _, rfl, hOW.out.lt _ rfl⟩
        obtain ⟨qf, qu⟩ := q
        have htl : t.length + 1 ≤ 1000 := hal
        clear hal
        have e : ((qf, qu) :: t).reverse = t.reverse ++ [(qf, qu)] := List.reverse_cons
        have hOW2 : Hid (wr.ownsRow w3.heap.size 38 2 (.slice (some ⟨g', 0, none⟩) (t.length + 1) c') (t.length + 1) (flat (t.reverse ++ [(qf, qu)]))) := by
          have := hOW.out; rw [e] at this; exact this
        clear e hOW
        have dq := flat_at (t.reverse ++ [(qf, qu)]) t.length (by simp)
        have dq0 : wr.cell? ⟨g', t.length * 2, none⟩ = some (.int .i64 qf) := by
          rw [hOW2.out.cellAt _ (by omega), dq.1]; simp
        have dq1 : wr.cell? ⟨g', t.length * 2 + 1, none⟩ = some (.int .i64 qu) := by
          rw [hOW2.out.cellAt _ (by omega), dq.2]; simp
        clear dq
        have hg'3 : g' ≠ wr.heap.size := by omega
        have mixed : Tryz.prog.follows .mixedOrders = true := Tryz.sortP.mixed
        have hgr1 := Gr.one wr (.cells #[.int .i64 f, .int .i64 u] 38)
        have oA := Lib.hid (hOW2.out.alloc (.cells #[.int .i64 f, .int .i64 u] 38))
        have bA := Lib.hid (hBW.out.alloc hBW.out.size (.cells #[.int .i64 f, .int .i64 u] 38))
        have a0 : ∀ n os, (Sort.grow ((wr.alloc (.cells #[.int .i64 f, .int .i64 u] 38)).drewN n) os).cell? ⟨wr.heap.size, 0, none⟩ = some (.int .i64 f) := fun n os => cell_grown (by simp) (by simp) n os
        have a1 : ∀ n os, (Sort.grow ((wr.alloc (.cells #[.int .i64 f, .int .i64 u] 38)).drewN n) os).cell? ⟨wr.heap.size, 1, none⟩ = some (.int .i64 u) := fun n os => cell_grown (by simp) (by simp) n os
        have d0 : ∀ n os, (Sort.grow ((wr.alloc (.cells #[.int .i64 f, .int .i64 u] 38)).drewN n) os).cell? ⟨g', t.length * 2, none⟩ = some (.int .i64 qf) := fun n os => cell_grown (by simp; omega) (Lib.cell?_alloc_some _ dq0) n os
        have d1 : ∀ n os, (Sort.grow ((wr.alloc (.cells #[.int .i64 f, .int .i64 u] 38)).drewN n) os).cell? ⟨g', t.length * 2 + 1, none⟩ = some (.int .i64 qu) := fun n os => cell_grown (by simp; omega) (Lib.cell?_alloc_some _ dq1) n os
        go_wp2_with fail
        clear hgr1
        have ce := Lib.hid (fun W => end_any qf qu W)
        have he := Lib.hid (show rst ((qf, qu) :: t) (f, u) = _ from rst_cons _ _ _)
        generalize en (qf, qu) = eq at *
        by_cases c1 : f ≤ eq
        · have hw : IntKind.i64.wrap (t.length : Int) = (t.length : Int) := IntWalk.i64_in _ (by omega)
          have hw0 : (0 : Int) ≤ (t.length : Int) := by omega
          have hw1 : (t.length : Int) < (t.length : Int) + 1 := by omega
          go_quiet_grown ((go_at_call 37; exact Calls.grown_of (ce.out _)))
          dsimp only
          have hg1 : Gr (wr.alloc (.cells #[.int .i64 f, .int .i64 u] 38)) (Sort.grow ((wr.alloc (.cells #[.int .i64 f, .int .i64 u] 38)).drewN nq) osq) := ⟨nq, osq, rfl⟩
          have e0 := a0 nq osq
          have e1 := a1 nq osq
          have e2 := d0 nq osq
          have e3 := d1 nq osq
          have oB := Lib.hid (oA.out.kept (hg1.grownBy none) (Or.inr (by simp [Value.ownBlock])))
          have bB := Lib.hid (bA.out.trans (hg1.below.mono bA.out.size))
          have hsz : wr.heap.size < (Sort.grow ((wr.alloc (.cells #[.int .i64 f, .int .i64 u] 38)).drewN nq) osq).heap.size := by have := hg1.below.size; simp at this ⊢; omega
          have hsg : g' < (Sort.grow ((wr.alloc (.cells #[.int .i64 f, .int .i64 u] 38)).drewN nq) osq).heap.size := by omega
          clear a0 a1 d0 d1 hg1 oA bA dq0 dq1 cf cu hOW2 hBW
          generalize Sort.grow ((wr.alloc (.cells #[.int .i64 f, .int .i64 u] 38)).drewN nq) osq = W1 at *
          have a0 : ∀ n os, (Sort.grow (W1.drewN n) os).cell? ⟨wr.heap.size, 0, none⟩ = some (.int .i64 f) := fun n os => cell_grown hsz e0 n os
          have a1 : ∀ n os, (Sort.grow (W1.drewN n) os).cell? ⟨wr.heap.size, 1, none⟩ = some (.int .i64 u) := fun n os => cell_grown hsz e1 n os
          have d0 : ∀ n os, (Sort.grow (W1.drewN n) os).cell? ⟨g', t.length * 2, none⟩ = some (.int .i64 qf) := fun n os => cell_grown hsg e2 n os
          have d1 : ∀ n os, (Sort.grow (W1.drewN n) os).cell? ⟨g', t.length * 2 + 1, none⟩ = some (.int .i64 qu) := fun n os => cell_grown hsg e3 n os
          have cp := Lib.hid (fun W => end_any f u W)
          generalize en (f, u) = ep at *
          by_cases c2 : eq < ep
          · have HF := Lib.hid (hF.out.trans (he.out.trans (by rw [if_pos c1, if_pos c2])))
            go_wp2_with fail
            go_quiet_grown ((first | (go_at_call_of 37 (Value.agg #[Value.int IntKind.i64 qf, Value.int IntKind.i64 qu]); exact Calls.grown_of (ce.out _)) | (go_at_call_of 37 (Value.agg #[Value.int IntKind.i64 f, Value.int IntKind.i64 u]); exact Calls.grown_of (cp.out _))))
            dsimp only
            have hg2 : Gr W1 (Sort.grow (W1.drewN nq) osq) := ⟨nq, osq, rfl⟩
            have x1 := a1 nq osq
            have x3 := d1 nq osq
            have oC := Lib.hid (oB.out.kept (hg2.grownBy none) (Or.inr (by simp [Value.ownBlock])))
            have bC := Lib.hid (bB.out.trans (hg2.below.mono bB.out.size))
            clear a0 a1 d0 d1 hg2 oB bB e0 e1 e2 e3 ce cp
            generalize Sort.grow (W1.drewN nq) osq = W2 at *
            have fz := oC.out.frozenAt (t.length * 2 + 1)
            clear hw hw0 hw1
            go_wp2_with fail
            go_roundw
            case rel =>
              refine ⟨k + 1, by omega, by go_num, urel_same HF.out ?_ (bC.out.setCell (by exact hg'1) _)⟩
              have := (oC.out.stored (t.length * 2 + 1) (.int .i64 u)).1
              rw [List.reverse_cons, ← flat_set t.reverse qf qu u, List.length_reverse]
              exact this
            case measure => simp [intOf]; omega
          · have HF := Lib.hid (hF.out.trans (he.out.trans (by rw [if_pos c1, if_neg c2])))
            go_wp2_with fail
            go_quiet_grown ((first | (go_at_call_of 37 (Value.agg #[Value.int IntKind.i64 qf, Value.int IntKind.i64 qu]); exact Calls.grown_of (ce.out _)) | (go_at_call_of 37 (Value.agg #[Value.int IntKind.i64 f, Value.int IntKind.i64 u]); exact Calls.grown_of (cp.out _))))
            dsimp only
            have hg2 : Gr W1 (Sort.grow (W1.drewN nq) osq) := ⟨nq, osq, rfl⟩
            have x1 := a1 nq osq
            have x3 := d1 nq osq
            have oC := Lib.hid (oB.out.kept (hg2.grownBy none) (Or.inr (by simp [Value.ownBlock])))
            have bC := Lib.hid (bB.out.trans (hg2.below.mono bB.out.size))
            clear a0 a1 d0 d1 hg2 oB bB e0 e1 e2 e3 ce cp
            generalize Sort.grow (W1.drewN nq) osq = W2 at *
            have fz := oC.out.frozenAt (t.length * 2 + 1)
            clear hw hw0 hw1
            go_wp2_with fail
            go_roundw
            case rel =>
              refine ⟨k + 1, by omega, by go_num, urel_same HF.out ?_ bC.out⟩
              rw [List.reverse_cons]
              exact oC.out
            case measure => simp [intOf]; omega
        · have HF := Lib.hid (hF.out.trans (he.out.trans (by rw [if_neg c1])))
          have hb1 : decide (f ≤ eq) = false := by simpa using c1
          have hw : IntKind.i64.wrap (t.length : Int) = (t.length : Int) := IntWalk.i64_in _ (by omega)
          have hw0 : (0 : Int) ≤ (t.length : Int) := by omega
          have hw1 : (t.length : Int) < (t.length : Int) + 1 := by omega
          go_quiet_grown ((go_at_call 37; exact Calls.grown_of (ce.out _)))
          dsimp only
          have hg1 : Gr (wr.alloc (.cells #[.int .i64 f, .int .i64 u] 38)) (Sort.grow ((wr.alloc (.cells #[.int .i64 f, .int .i64 u] 38)).drewN nq) osq) := ⟨nq, osq, rfl⟩
          have e0 := a0 nq osq
          have e1 := a1 nq osq
          have oB := Lib.hid (oA.out.kept (hg1.grownBy none) (Or.inr (by simp [Value.ownBlock])))
          have bB := Lib.hid (bA.out.trans (hg1.below.mono bA.out.size))
          have hsz : wr.heap.size < (Sort.grow ((wr.alloc (.cells #[.int .i64 f, .int .i64 u] 38)).drewN nq) osq).heap.size := by have := hg1.below.size; simp at this ⊢; omega
          clear a0 a1 d0 d1 hg1 oA bA dq0 dq1 cf cu hOW2 hBW hw hw0 hw1 ce
          generalize Sort.grow ((wr.alloc (.cells #[.int .i64 f, .int .i64 u] 38)).drewN nq) osq = W1 at *
          go_wp2_with (at_builtin; refine wpList_append_own _ rfl _ _ 34 rfl w3.heap.size 38 i0 _ 2 16 Tryz.underlying34 hi hz0 hz1 hz2 rfl (by decide) _ (t.length + 1) (flat (t.reverse ++ [(qf, qu)])) rfl ?yo1 ⟨W1.heap.size, 0, none⟩ 1 1 [.int .i64 f, .int .i64 u] rfl rfl (two_new _ _ _ _ _ rfl) ?yc2 ?yc3 ?yc4 ?yc5 ?_)
          case yo1 => exact oB.out.alloc _
          case yc2 => exact ⟨rfl, rfl⟩
          case yc3 => unfold maxLen; omega
          case yc4 => omega
          case yc5 => have := bB.out.size; simp; omega
          intro v' wx hown' hgrow _
          have hX := Lib.hid hown'
          have hGX := Lib.hid hgrow
          clear hown' hgrow
          go_wp2_with fail
          go_roundw
          case rel =>
            refine ⟨k + 1, by omega, by go_num, urel_app (acc := (qf, qu) :: t) HF.out rfl (by rw [List.reverse_cons]) hX.out ?_⟩
            have hbs := bB.out.size
            refine ((bB.out.alloc hbs _).grown hGX.out (by simp; omega) ?_)
            intro k' hk'
            exact (oB.out.lt k' hk').1
          case measure => simp [intOf]; omega
    · obtain rfl : k = s.length := by omega
      have HV := hV
      clear hV
      go_wp2_with fail
      go_ret2
      obtain ⟨hown, hbw⟩ := HV.out
      rw [List.take_length] at hown
      refine ⟨_, _, rfl, hU.out, ?_, hbb.out.trans (hbw.mono hbb.out.size)⟩
      rw [List.length_reverse]
      exact own_base hown hbb.out.size
end Go.Proofs.YtjebbmnjegndkaaGreatDoor
