/- The reference's Append, whatever it is asked for. Under no condition but sizes. -/
/- The plain course of a disk and its journal: what Open and Append make of them; the contracts as the law that compares with the reference uses them. Under the condition that the tables lie in memory as the program lays them. -/
/- The two sides of the law that compares with the reference: a disk and its journal, and the reference's, on the same plain data. Under the condition that the tables lie in memory as the program lays them. -/
import Derived.Test.YtihoomlaggihlaaGreatDoorRL
import Derived.Test.YtihoomlaggihlaaGreatDoorLJ
import Derived.Test.YtihoomlaggihlaaGreatDoorRK
namespace Go.Proofs.YtihoomlaggihlaaGreatDoor
open Go.RowKit

theorem rcount_pieces (w : World) (t : List UInt8) (k : Nat) (ht : t.length ≤ 10000000) (hk : (pieces t).length = k) :
    Calls Tryz.prog 10 #[.string ⟨t.toArray⟩] w fun e w' => ∃ pa pc, e = .returned (.slice pa k pc) ∧ Below w.heap.size w w' := by
  refine (rpieces_any w t ht).mono ?_
  rintro e w' ⟨v, rfl, ho, hb⟩
  rw [hk] at ho
  rcases ho.2 with ⟨rfl, e⟩ | ⟨q, cap, cur, rfl, _⟩
  · exact ⟨none, 0, by rw [e], hb⟩
  · exact ⟨_, _, rfl, hb⟩

set_option maxHeartbeats 4000000 in
set_option maxRecDepth 100000 in
theorem rappend_long (w : World) (G : Nat → Prop) (jb d n c : Nat) (recs xs : List (List UInt8)) (v : Value) (h : RJ w G jb d n c recs false) (hv : SR w (fun _ => False) v xs) (hm : xs.length ≤ 100000) (hl : ∀ t ∈ xs, t.length ≤ 10000000) (hb : longB xs = true) :
    Calls Tryz.prog 28 #[.pointer (some ⟨jb, 0, none⟩), v] w fun e w' => e = .returned (.int .i64 2) ∧ w = w' := by
  have HLO := rlong_any w v xs hv (by omega) hl
  rw [hb] at HLO
  replace HLO := Lib.hid HLO
  obtain ⟨rv, m1, _, _⟩ := h.mem
  have y4 : w.cell? ⟨jb, 4, none⟩ = some (.bool false) := cell_at m1 rfl
  have hjl := heap_lt m1
  clear h hv hl hb m1
  go_enter Tryz.func28, Tryz.ntmps28
  go_wp2_with fail
  refine HLO.out.mono ?_
  rintro e w1 ⟨rfl, rfl⟩
  clear HLO
  go_wp2_with fail
  go_ret
  exact ⟨rfl, rfl⟩
/-- an Append that ends before it writes -/
theorem rappend_few (w : World) (G : Nat → Prop) (jb d n c : Nat) (recs xs : List (List UInt8)) (v : Value) (code : Int) (h : RJ w G jb d n c recs false) (hn : n ≤ 4000) (hv : SR w (fun _ => False) v xs) (hm : xs.length ≤ 100000) (hl : ∀ t ∈ xs, t.length ≤ 10000000) (ht : (textP xs).length ≤ 10000000) (hb : longB xs = false) (hc : (n - 2 - c < (pieces (textP xs)).length ∧ code = 22) ∨ (xs = [] ∧ code = 0)) :
    Calls Tryz.prog 28 #[.pointer (some ⟨jb, 0, none⟩), v] w fun e w' => e = .returned (.int .i64 code) ∧ Below w.heap.size w w' := by
  have HLO := rlong_any w v xs hv (by omega) hl
  rw [hb] at HLO
  replace HLO := Lib.hid HLO
  have HJ := Lib.hid h
  have HTX := Lib.hid (rtext_any w v xs hv ht)
  have hx0 : xs = [] → (pieces (textP xs)).length = 0 := fun e => by rw [e]; rw [show pieces (textP []) = [] from pieces_nil]; rfl
  obtain ⟨K, hK⟩ : ∃ K, (pieces (textP xs)).length = K := ⟨_, rfl⟩
  have HPC := Lib.hid (fun W => rcount_pieces W (textP xs) K ht hK)
  rw [hK] at hc hx0
  obtain ⟨va, vc, rfl, hvc, _⟩ := hv
  obtain ⟨rv, m1, _, _⟩ := h.mem
  have y4 : w.cell? ⟨jb, 4, none⟩ = some (.bool false) := cell_at m1 rfl
  have hjl := heap_lt m1
  have hcle := h.le
  clear h hl hb m1 hK ht
  have hK0 : (0 : Int) ≤ (K : Int) := Int.natCast_nonneg _
  generalize textP xs = tx at *
  rcases hc with ⟨hr, rfl⟩ | ⟨he, rfl⟩
  · have hri : ((n - 2 - c : Nat) : Int) < (K : Int) := by omega
    have hKm : (K : Int) ≤ 9223372036854775807 ∨ True := Or.inr trivial
    clear hx0 hKm
    go_enter Tryz.func28, Tryz.ntmps28
    go_wp2_with fail
    refine HLO.out.mono ?_
    rintro e w1 ⟨rfl, rfl⟩
    clear HLO
    go_wp2_with fail
    refine HTX.out.mono ?_
    rintro e w1 ⟨rfl, hb1⟩
    have B1 := Lib.hid hb1
    clear hb1 HTX
    go_wp2_with fail
    refine (HPC.out w1).mono ?_
    rintro e w2 ⟨pa, pc, rfl, hb2⟩
    have B2 := Lib.hid (B1.out.trans (hb2.mono B1.out.size))
    clear hb2 HPC B1
    have HRM := Lib.hid (rroom_any w2 G jb d n c recs false (HJ.out.below B2.out) hn)
    go_wp2_with fail
    refine HRM.out.mono ?_
    rintro e w3 ⟨rfl, hb3⟩
    have B3 := Lib.hid (B2.out.trans (hb3.mono B2.out.size))
    clear hb3 HRM B2
    go_wp2_with fail
    go_ret
    exact ⟨rfl, B3.out⟩
  · have hK1 := hx0 he
    subst hK1
    have hxl : xs.length = 0 := by rw [he]; rfl
    clear hx0
    rw [hxl] at HLO HTX ⊢
    have hri : (0 : Int) ≤ ((n - 2 - c : Nat) : Int) := Int.natCast_nonneg _
    go_enter Tryz.func28, Tryz.ntmps28
    go_wp2_with fail
    refine HLO.out.mono ?_
    rintro e w1 ⟨rfl, rfl⟩
    clear HLO
    go_wp2_with fail
    refine HTX.out.mono ?_
    rintro e w1 ⟨rfl, hb1⟩
    have B1 := Lib.hid hb1
    clear hb1 HTX
    go_wp2_with fail
    refine (HPC.out w1).mono ?_
    rintro e w2 ⟨pa, pc, rfl, hb2⟩
    have B2 := Lib.hid (B1.out.trans (hb2.mono B1.out.size))
    clear hb2 HPC B1
    have HRM := Lib.hid (rroom_any w2 G jb d n c recs false (HJ.out.below B2.out) hn)
    go_wp2_with fail
    refine HRM.out.mono ?_
    rintro e w3 ⟨rfl, hb3⟩
    have B3 := Lib.hid (B2.out.trans (hb3.mono B2.out.size))
    clear hb3 HRM B2
    go_wp2_with fail
    go_ret
    exact ⟨rfl, B3.out⟩
set_option maxHeartbeats 4000000 in
set_option maxRecDepth 100000 in
theorem append_nil_any (w : World) (v : Value) : Calls Tryz.prog 13 #[.pointer none, v] w fun e w' => e = .returned (.int .i64 1) ∧ Below w.heap.size w w' := by
  go_enter_defers Tryz.func13, Tryz.ntmps13
  go_wp2_with fail
  simp [bodyPostD, Leaves, results, Tryz.results13, go_sem]
  exact Below.alloc (Below.alloc (Below.refl _ _) (Nat.le_refl _) _) (by simp) _
end Go.Proofs.YtihoomlaggihlaaGreatDoor

namespace Go.Proofs.YtihoomlaggihlaaGreatDoor
open Go.RowKit

/-- a journal as plain data: its count, its records, and whether it is broken -/
abbrev Jn := Option (Nat × List (List UInt8) × Bool)
def recsOf : Jn → List (List UInt8)
  | none => []
  | some (_, r, _) => r
def roomOf (n : Nat) : Jn → Nat
  | none => 0
  | some (c, _, _) => n - 2 - c
theorem runs_quiet (D : PD) (hp : D.pend = []) (hal : ∀ a x y, D.alarm = some (a, x, y) → 0 ≤ a ∧ a ≤ 9223372036854775807) (segs : List (List (Nat × List UInt8))) : (D.runs segs).1.pend = [] ∧ ((D.runs segs).2 = 0 ∨ (D.runs segs).2 = 21) := by
  obtain ⟨S, p, off, al⟩ := D
  dsimp only at hp hal
  subst hp
  cases off with
  | true =>
    cases segs with
    | nil => exact ⟨rfl, Or.inl rfl⟩
    | cons s rest =>
      have : PD.writes ⟨S, [], true, al⟩ s = (⟨S, [], true, al⟩, 21) := by
        cases s with
        | nil => simp [PD.writes, PD.sync]
        | cons q s => simp [PD.writes, PD.write]
      rw [PD.runs, this]
      simp
  | false =>
    rcases runs_end 0 segs S al hal with ⟨al', e, _, _⟩ | ⟨T, e, _, _⟩
    · rw [e]; exact ⟨rfl, Or.inl rfl⟩
    · rw [e]; exact ⟨rfl, Or.inr rfl⟩
/-- what Open makes of a disk -/
def OpnR (n : Nat) (D : PD) (code : Int) (D' : PD) (J : Jn) : Prop :=
  (D.off = true ∧ code = 21 ∧ D' = D ∧ J = none) ∨
  (D.off = false ∧ n < 3 ∧ code = 1 ∧ D' = D ∧ J = none) ∨
  (D.off = false ∧ 3 ≤ n ∧ (¬ ∃ c recs, Opn n (view D) c recs) ∧ code = 20 ∧ D' = D ∧ J = none) ∨
  (D.off = false ∧ 3 ≤ n ∧ ∃ c recs, Opn n (view D) c recs ∧ D' = (D.runs (mend (view D) c)).1 ∧
    (((D.runs (mend (view D) c)).2 = 21 ∧ code = 21 ∧ J = none) ∨ ((D.runs (mend (view D) c)).2 = 0 ∧ code = 0 ∧ J = some (c, recs, false))))
theorem OpnR.same {n : Nat} {D D1 D2 : PD} {c1 c2 : Int} {J1 J2 : Jn} (h : OpnR n D c1 D1 J1) (g : OpnR n D c2 D2 J2) : c1 = c2 ∧ D1 = D2 ∧ J1 = J2 := by
  rcases h with ⟨h0, rfl, rfl, rfl⟩ | ⟨h0, h3, rfl, rfl, rfl⟩ | ⟨h0, h3, hno, rfl, rfl, rfl⟩ | ⟨h0, h3, c, recs, ho, rfl, hr⟩
  · rcases g with ⟨g0, rfl, rfl, rfl⟩ | ⟨g0, _⟩ | ⟨g0, _⟩ | ⟨g0, _⟩
    · exact ⟨rfl, rfl, rfl⟩
    all_goals (rw [h0] at g0; cases g0)
  · rcases g with ⟨g0, _⟩ | ⟨g0, g3, rfl, rfl, rfl⟩ | ⟨g0, g3, _⟩ | ⟨g0, g3, _⟩
    · rw [h0] at g0; cases g0
    · exact ⟨rfl, rfl, rfl⟩
    all_goals omega
  · rcases g with ⟨g0, _⟩ | ⟨g0, g3, _⟩ | ⟨g0, g3, gno, rfl, rfl, rfl⟩ | ⟨g0, g3, c', recs', go, _⟩
    · rw [h0] at g0; cases g0
    · omega
    · exact ⟨rfl, rfl, rfl⟩
    · exact absurd ⟨_, _, go⟩ hno
  rcases g with ⟨g0, _⟩ | ⟨g0, g3, _⟩ | ⟨g0, g3, gno, _⟩ | ⟨g0, g3, c', recs', go, rfl, gr⟩
  · rw [h0] at g0; cases g0
  · omega
  · exact absurd ⟨_, _, ho⟩ gno
  obtain ⟨rfl, rfl⟩ := ho.same go
  rcases hr with ⟨e, rfl, rfl⟩ | ⟨e, rfl, rfl⟩ <;> rcases gr with ⟨e', rfl, rfl⟩ | ⟨e', rfl, rfl⟩
  · exact ⟨rfl, rfl, rfl⟩
  · rw [e] at e'; cases e'
  · rw [e] at e'; cases e'
  · exact ⟨rfl, rfl, rfl⟩
/-- what Append makes of a disk and its journal -/
def appP (n : Nat) (D : PD) (J : Jn) (xs : List (List UInt8)) : Int × PD × Jn :=
  match J with
  | none => (1, D, none)
  | some (c, recs, brk) =>
    if brk = true then (11, D, some (c, recs, brk)) else
    if longB xs = true then (2, D, some (c, recs, brk)) else
    if n - 2 - c < (pieces (textP xs)).length then (22, D, some (c, recs, brk)) else
    if xs = [] then (0, D, some (c, recs, brk)) else
    if (D.runs (appSegs c (pieces (textP xs)))).2 = 0 then (0, (D.runs (appSegs c (pieces (textP xs)))).1, some (c + (pieces (textP xs)).length, recs ++ xs, false)) else
    (21, (D.runs (appSegs c (pieces (textP xs)))).1, some (c, recs, true))
theorem appP_pend (n : Nat) (D : PD) (J : Jn) (xs : List (List UInt8)) (hp : D.pend = []) (hal : ∀ a x y, D.alarm = some (a, x, y) → 0 ≤ a ∧ a ≤ 9223372036854775807) : (appP n D J xs).2.1.pend = [] := by
  unfold appP
  split
  · exact hp
  · repeat' split
    all_goals first | exact hp | exact (runs_quiet D hp hal _).1
theorem appP_recs (n : Nat) (D : PD) (J : Jn) (xs : List (List UInt8)) : (recsOf (appP n D J xs).2.2).length ≤ (recsOf J).length + xs.length := by
  unfold appP
  split
  · simp [recsOf]
  · repeat' split
    all_goals simp [recsOf]
theorem OpnR.pend {n : Nat} {D D1 : PD} {c : Int} {J : Jn} (h : OpnR n D c D1 J) (hp : D.pend = []) (hal : ∀ a x y, D.alarm = some (a, x, y) → 0 ≤ a ∧ a ≤ 9223372036854775807) : D1.pend = [] := by
  rcases h with ⟨_, _, rfl, _⟩ | ⟨_, _, _, rfl, _⟩ | ⟨_, _, _, _, rfl, _⟩ | ⟨_, _, c, recs, _, rfl, _⟩
  · exact hp
  · exact hp
  · exact hp
  · exact (runs_quiet D hp hal _).1
theorem flat_le' : ∀ (ts : List (List UInt8)), (∀ i (h : i < ts.length), ts[i].length ≤ 46) → ts.flatten.length ≤ 46 * ts.length
  | [], _ => by simp
  | t :: ts, h => by
    have i := flat_le' ts (fun i hi => h (i + 1) (by simp; omega))
    have k := h 0 (by simp)
    rw [List.flatten_cons, List.length_append, List.length_cons]
    rw [List.getElem_cons_zero] at k
    omega
theorem textP_cnt : ∀ l : List (List UInt8), l.length ≤ (textP l).length
  | [] => by simp
  | r :: l => by
    have := textP_cnt l
    rw [textP_cons]; simp; omega
theorem opn_cnt {n c : Nat} {S recs : List (List UInt8)} (h : Opn n S c recs) : recs.length ≤ 46 * c := by
  obtain ⟨ts, h1, h2, h3⟩ := h.body
  have := textP_cnt recs
  have k := flat_le' ts (fun i hi => (h2 i hi).2.1)
  rw [h3] at k
  omega
theorem OpnR.recs {n : Nat} {D D1 : PD} {c : Int} {J : Jn} (h : OpnR n D c D1 J) (hn : n ≤ 40) : (recsOf J).length ≤ 2000 := by
  rcases h with ⟨_, _, _, rfl⟩ | ⟨_, _, _, _, rfl⟩ | ⟨_, _, _, _, _, rfl⟩ | ⟨_, _, c, recs, ho, _, ⟨_, _, rfl⟩ | ⟨_, _, rfl⟩⟩
  all_goals try exact Nat.zero_le _
  have := opn_cnt ho
  have := ho.le (by omega)
  show recs.length ≤ 2000
  omega
/-- an Open that has gone well hands back what the journal holds; any other, nothing -/
theorem OpnR.code {n : Nat} {D D1 : PD} {c : Int} {J : Jn} (h : OpnR n D c D1 J) : (c = 0 ∧ J ≠ none) ∨ (c ≠ 0 ∧ J = none) := by
  rcases h with ⟨_, rfl, _, rfl⟩ | ⟨_, _, rfl, _, rfl⟩ | ⟨_, _, _, rfl, _, rfl⟩ | ⟨_, _, c, recs, ho, _, ⟨_, rfl, rfl⟩ | ⟨_, rfl, rfl⟩⟩
  all_goals simp
end Go.Proofs.YtihoomlaggihlaaGreatDoor

namespace Go.Proofs.YtihoomlaggihlaaGreatDoor
open Go.RowKit

theorem Stp.up {X Y Y' : Nat → Prop} {w w' : World} (h : Stp Y w Y' w') (hY : ∀ k, Y k → X k) : Stp X w Y' w' :=
  ⟨h.out.mono fun k _ e => hY k e, fun k e => (h.sub k e).imp (hY k) id⟩
/-- a footprint of the law's own -/
structure Bd (w0 : World) (X : Nat → Prop) (w : World) : Prop where
  bel : Below w0.heap.size w0 w
  ge : ∀ k, X k → w0.heap.size ≤ k
  lt : ∀ k, X k → k < w.heap.size
theorem Bd.below {w0 w w' : World} {X : Nat → Prop} (h : Bd w0 X w) (hb : Below w.heap.size w w') : Bd w0 X w' :=
  ⟨h.bel.trans (hb.mono h.bel.size), h.ge, fun k e => Nat.lt_of_lt_of_le (h.lt k e) hb.size⟩
theorem Bd.next {w0 w w' : World} {X Y Y' : Nat → Prop} (h : Bd w0 X w) (hs : Stp Y w Y' w') (hY : ∀ k, Y k → X k) (hl : ∀ k, Y' k → k < w'.heap.size) : Bd w0 (fun k => X k ∨ Y' k) w' ∧ Stp X w (fun k => X k ∨ Y' k) w' := by
  have hX := hs.up hY
  refine ⟨⟨h.bel.trans (hX.out.below h.bel.size h.ge), fun k e => ?_, fun k e => ?_⟩, hX.out, fun k e => ?_⟩
  · rcases e with e | e
    · exact h.ge k e
    · rcases hX.sub k e with y | y
      · exact h.ge k y
      · exact Nat.le_trans h.bel.size y
  · rcases e with e | e
    · exact Nat.lt_of_lt_of_le (h.lt k e) hs.out.size
    · exact hl k e
  · rcases e with e | e
    · exact Or.inl e
    · exact hX.sub k e
/-- what lies apart from a footprint is kept, and stays apart -/
theorem apart {X Y Y' : Nat → Prop} {w w' : World} (hs : Stp Y w Y' w') (hX : ∀ k, X k → k < w.heap.size) (hd : ∀ k, Y k → ¬ X k) : ∀ k, Y' k → ¬ X k := fun k hk hx => by
  rcases hs.sub k hk with y | y
  · exact hd k y hx
  · have := hX k hx; omega
/-- the disk and its journal -/
structure MS (w0 : World) (X : Nat → Prop) (d n : Nat) (D : PD) (jv : Value) (J : Jn) (w : World) : Prop where
  bd : Bd w0 X w
  mem : ∃ F, DAt w F d n D ∧ (∀ k, F k → X k) ∧ ((J = none ∧ jv = .pointer none) ∨ ∃ c recs brk jb G, J = some (c, recs, brk) ∧ jv = .pointer (some ⟨jb, 0, none⟩) ∧ JAt w G jb d n c recs brk ∧ (∀ k, G k → X k) ∧ ∀ k, F k → ¬ G k)
theorem MS.below {w0 w w' : World} {X : Nat → Prop} {d n : Nat} {D : PD} {jv : Value} {J : Jn} (h : MS w0 X d n D jv J w) (hb : Below w.heap.size w w') : MS w0 X d n D jv J w' := by
  obtain ⟨F, h1, h2, h3⟩ := h.mem
  refine ⟨h.bd.below hb, F, h1.below hb, h2, ?_⟩
  rcases h3 with h3 | ⟨c, recs, brk, jb, G, e1, e2, e3, e4⟩
  · exact Or.inl h3
  · exact Or.inr ⟨c, recs, brk, jb, G, e1, e2, e3.below hb, e4⟩
theorem MS.far {w0 w w' : World} {X Y Y' : Nat → Prop} {d n : Nat} {D : PD} {jv : Value} {J : Jn} (h : MS w0 X d n D jv J w) (hs : Stp Y w Y' w') (hY : ∀ k, Y k → w0.heap.size ≤ k) (hd : ∀ k, Y k → ¬ X k) : MS w0 X d n D jv J w' := by
  obtain ⟨F, h1, h2, h3⟩ := h.mem
  refine ⟨⟨h.bd.bel.trans (hs.out.below h.bd.bel.size hY), h.bd.ge, fun k e => Nat.lt_of_lt_of_le (h.bd.lt k e) hs.out.size⟩, F, ?_, h2, ?_⟩
  · obtain ⟨sb, qv, av, m1, m2, m3, m4, m5, m6⟩ := h1.mem
    have hn : ∀ k, F k → ¬ Y k := fun k hk e => hd k e (h2 k hk)
    refine ⟨h1.vd, h1.n4, fun k hk => Nat.lt_of_lt_of_le (h1.lt k hk) hs.out.size, h1.fd, sb, qv, av, hs.out.heap m1 (hn _ h1.fd), hs.out.heap m2 (hn _ m5), hs.out.own m3 (fun k hk => hn _ (m6 k hk)), ?_, m5, m6⟩
    unfold AlAt at *
    cases hal : D.alarm with
    | none => rw [hal] at m4; exact m4
    | some x =>
      obtain ⟨a, b, c⟩ := x
      rw [hal] at m4
      obtain ⟨g, e, hF, hg⟩ := m4
      exact ⟨g, e, hF, hs.out.heap hg (hn _ hF)⟩
  · rcases h3 with h3 | ⟨c, recs, brk, jb, G, e1, e2, e3, e4, e5⟩
    · exact Or.inl h3
    · exact Or.inr ⟨c, recs, brk, jb, G, e1, e2, e3.out hs.out (fun k hk e => hd k hk (e4 k e)), e4, e5⟩
/-- the reference's disk and journal -/
structure MT (w0 : World) (X : Nat → Prop) (d n : Nat) (D : PD) (jv : Value) (J : Jn) (w : World) : Prop where
  bd : Bd w0 X w
  mem : ∃ F, RAt w F d n D ∧ (∀ k, F k → X k) ∧ ((J = none ∧ jv = .pointer none) ∨ ∃ c recs brk jb G, J = some (c, recs, brk) ∧ jv = .pointer (some ⟨jb, 0, none⟩) ∧ RJ w G jb d n c recs brk ∧ (∀ k, G k → X k) ∧ ∀ k, F k → ¬ G k)
theorem MT.below {w0 w w' : World} {X : Nat → Prop} {d n : Nat} {D : PD} {jv : Value} {J : Jn} (h : MT w0 X d n D jv J w) (hb : Below w.heap.size w w') : MT w0 X d n D jv J w' := by
  obtain ⟨F, h1, h2, h3⟩ := h.mem
  refine ⟨h.bd.below hb, F, h1.below hb, h2, ?_⟩
  rcases h3 with h3 | ⟨c, recs, brk, jb, G, e1, e2, e3, e4⟩
  · exact Or.inl h3
  · exact Or.inr ⟨c, recs, brk, jb, G, e1, e2, e3.below hb, e4⟩
theorem MT.far {w0 w w' : World} {X Y Y' : Nat → Prop} {d n : Nat} {D : PD} {jv : Value} {J : Jn} (h : MT w0 X d n D jv J w) (hs : Stp Y w Y' w') (hY : ∀ k, Y k → w0.heap.size ≤ k) (hd : ∀ k, Y k → ¬ X k) : MT w0 X d n D jv J w' := by
  obtain ⟨F, h1, h2, h3⟩ := h.mem
  refine ⟨⟨h.bd.bel.trans (hs.out.below h.bd.bel.size hY), h.bd.ge, fun k e => Nat.lt_of_lt_of_le (h.bd.lt k e) hs.out.size⟩, F, h1.out hs.out (fun k hk e => hd k e (h2 k hk)), h2, ?_⟩
  rcases h3 with h3 | ⟨c, recs, brk, jb, G, e1, e2, e3, e4, e5⟩
  · exact Or.inl h3
  · exact Or.inr ⟨c, recs, brk, jb, G, e1, e2, e3.out hs.out (fun k hk e => hd k hk (e4 k e)), e4, e5⟩
/-! the disk's own operations -/
theorem ms_disk {w0 w w' : World} {X : Nat → Prop} {d n : Nat} {D E : PD} {jv : Value} {J : Jn} (h : MS w0 X d n D jv J w) {F F' : Nat → Prop} (_ : DAt w F d n D) (hFX : ∀ k, F k → X k) (hj : (J = none ∧ jv = .pointer none) ∨ ∃ c recs brk jb G, J = some (c, recs, brk) ∧ jv = .pointer (some ⟨jb, 0, none⟩) ∧ JAt w G jb d n c recs brk ∧ (∀ k, G k → X k) ∧ ∀ k, F k → ¬ G k) (hd : DAt w' F' d n E) (hs : Stp F w F' w') :
    ∃ X', MS w0 X' d n E jv J w' ∧ Stp X w X' w' := by
  obtain ⟨b1, b2⟩ := h.bd.next hs hFX hd.lt
  refine ⟨_, ⟨b1, F', hd, fun k e => Or.inr e, ?_⟩, b2⟩
  rcases hj with hj | ⟨c, recs, brk, jb, G, e1, e2, e3, e4, e5⟩
  · exact Or.inl hj
  · obtain ⟨j1, j2⟩ := e3.stp hs e5
    exact Or.inr ⟨c, recs, brk, jb, G, e1, e2, j1, fun k e => Or.inl (e4 k e), j2⟩
theorem mt_disk {w0 w w' : World} {X : Nat → Prop} {d n : Nat} {D E : PD} {jv : Value} {J : Jn} (h : MT w0 X d n D jv J w) {F F' : Nat → Prop} (_ : RAt w F d n D) (hFX : ∀ k, F k → X k) (hj : (J = none ∧ jv = .pointer none) ∨ ∃ c recs brk jb G, J = some (c, recs, brk) ∧ jv = .pointer (some ⟨jb, 0, none⟩) ∧ RJ w G jb d n c recs brk ∧ (∀ k, G k → X k) ∧ ∀ k, F k → ¬ G k) (hd : RAt w' F' d n E) (hs : Stp F w F' w') :
    ∃ X', MT w0 X' d n E jv J w' ∧ Stp X w X' w' := by
  obtain ⟨b1, b2⟩ := h.bd.next hs hFX hd.lt
  refine ⟨_, ⟨b1, F', hd, fun k e => Or.inr e, ?_⟩, b2⟩
  rcases hj with hj | ⟨c, recs, brk, jb, G, e1, e2, e3, e4, e5⟩
  · exact Or.inl hj
  · obtain ⟨j1, j2⟩ := e3.stp hs e5
    exact Or.inr ⟨c, recs, brk, jb, G, e1, e2, j1, fun k e => Or.inl (e4 k e), j2⟩
/-- how an operation on a disk ends -/
def DEnd (S : World → (Nat → Prop) → Nat → Nat → PD → Value → Jn → World → Prop) (w0 : World) (X : Nat → Prop) (d n : Nat) (E : PD) (jv : Value) (J : Jn) (w : World) (e : Ending) (w' : World) : Prop := e = .returned (.tuple #[]) ∧ ∃ X', S w0 X' d n E jv J w' ∧ Stp X w X' w'
theorem ms_fail (w0 w : World) (X : Nat → Prop) (d n : Nat) (D : PD) (jv : Value) (J : Jn) (x y : Int) (h : MS w0 X d n D jv J w) (hp : D.pend = []) :
    Calls Tryz.prog 20 #[.pointer (some ⟨d, 0, none⟩), .int .i64 x, .int .i64 y] w (DEnd MS w0 X d n (D.fail x y) jv J w) := by
  obtain ⟨F, h1, h2, h3⟩ := h.mem
  refine (fail_any w F d n D x y h1 (by rw [hp]; exact Nat.zero_le _)).mono ?_
  rintro e w' ⟨rfl, g1, g2⟩
  exact ⟨rfl, ms_disk h h1 h2 h3 g1 (Stp.same g2)⟩
theorem mt_fail (w0 w : World) (X : Nat → Prop) (d n : Nat) (D : PD) (jv : Value) (J : Jn) (x y : Int) (h : MT w0 X d n D jv J w) :
    Calls Tryz.prog 21 #[.pointer (some ⟨d, 0, none⟩), .int .i64 x, .int .i64 y] w (DEnd MT w0 X d n (D.fail x y) jv J w) := by
  obtain ⟨F, h1, h2, h3⟩ := h.mem
  refine (rfail_any w F d n D x y h1).mono ?_
  rintro e w' ⟨rfl, g1, g2⟩
  exact ⟨rfl, mt_disk h h1 h2 h3 g1 (Stp.same g2)⟩
theorem ms_start (w0 w : World) (X : Nat → Prop) (d n : Nat) (D : PD) (jv : Value) (J : Jn) (h : MS w0 X d n D jv J w) :
    Calls Tryz.prog 22 #[.pointer (some ⟨d, 0, none⟩)] w (DEnd MS w0 X d n D.start jv J w) := by
  obtain ⟨F, h1, h2, h3⟩ := h.mem
  refine (start_dat w F d n D h1).mono ?_
  rintro e w' ⟨rfl, g1, g2⟩
  exact ⟨rfl, ms_disk h h1 h2 h3 g1 (Stp.same g2)⟩
theorem mt_start (w0 w : World) (X : Nat → Prop) (d n : Nat) (D : PD) (jv : Value) (J : Jn) (h : MT w0 X d n D jv J w) :
    Calls Tryz.prog 23 #[.pointer (some ⟨d, 0, none⟩)] w (DEnd MT w0 X d n D.start jv J w) := by
  obtain ⟨F, h1, h2, h3⟩ := h.mem
  refine (rstart_any w F d n D h1).mono ?_
  rintro e w' ⟨rfl, g1, g2⟩
  exact ⟨rfl, mt_disk h h1 h2 h3 g1 (Stp.same g2)⟩
theorem ms_arm (w0 w : World) (X : Nat → Prop) (d n : Nat) (D : PD) (jv : Value) (J : Jn) (a b c : Int) (h : MS w0 X d n D jv J w) (ha : a ≤ 9223372036854775807) :
    Calls Tryz.prog 24 #[.pointer (some ⟨d, 0, none⟩), .int .i64 a, .int .i64 b, .int .i64 c] w (DEnd MS w0 X d n (D.arm a b c) jv J w) := by
  obtain ⟨F, h1, h2, h3⟩ := h.mem
  refine (arm_dat w F d n D a b c h1 ha).mono ?_
  rintro e w' ⟨rfl, F', g1, g2⟩
  exact ⟨rfl, ms_disk h h1 h2 h3 g1 g2⟩
theorem mt_arm (w0 w : World) (X : Nat → Prop) (d n : Nat) (D : PD) (jv : Value) (J : Jn) (a b c : Int) (h : MT w0 X d n D jv J w) (ha : a ≤ 9223372036854775807) :
    Calls Tryz.prog 25 #[.pointer (some ⟨d, 0, none⟩), .int .i64 a, .int .i64 b, .int .i64 c] w (DEnd MT w0 X d n (D.arm a b c) jv J w) := by
  obtain ⟨F, h1, h2, h3⟩ := h.mem
  refine (rarm_any w F d n D a b c h1 ha).mono ?_
  rintro e w' ⟨rfl, g1, g2⟩
  exact ⟨rfl, mt_disk h h1 h2 h3 g1 (Stp.same g2)⟩
theorem ms_rot (w0 w : World) (X : Nat → Prop) (d n : Nat) (D : PD) (jv : Value) (J : Jn) (i a m : Int) (h : MS w0 X d n D jv J w) :
    Calls Tryz.prog 26 #[.pointer (some ⟨d, 0, none⟩), .int .i64 i, .int .i64 a, .int .i64 m] w (DEnd MS w0 X d n (D.rot i a m) jv J w) := by
  obtain ⟨F, h1, h2, h3⟩ := h.mem
  refine (rot_any w F d n i a m D h1).mono ?_
  rintro e w' ⟨rfl, g1, g2⟩
  exact ⟨rfl, ms_disk h h1 h2 h3 g1 (Stp.same g2)⟩
theorem mt_rot (w0 w : World) (X : Nat → Prop) (d n : Nat) (D : PD) (jv : Value) (J : Jn) (i a m : Int) (h : MT w0 X d n D jv J w) :
    Calls Tryz.prog 27 #[.pointer (some ⟨d, 0, none⟩), .int .i64 i, .int .i64 a, .int .i64 m] w (DEnd MT w0 X d n (D.rot i a m) jv J w) := by
  obtain ⟨F, h1, h2, h3⟩ := h.mem
  refine (rrot_any w F d n i a m D h1).mono ?_
  rintro e w' ⟨rfl, g1, g2⟩
  exact ⟨rfl, mt_disk h h1 h2 h3 g1 (Stp.same g2)⟩
/-- how an Append ends -/
def JEnd (S : World → (Nat → Prop) → Nat → Nat → PD → Value → Jn → World → Prop) (w0 : World) (X : Nat → Prop) (d n : Nat) (jv : Value) (R : Int × PD × Jn) (w : World) (e : Ending) (w' : World) : Prop := e = .returned (.int .i64 R.1) ∧ ∃ X', S w0 X' d n R.2.1 jv R.2.2 w' ∧ Stp X w X' w'
theorem ms_append (w0 w : World) (X : Nat → Prop) (d n : Nat) (D : PD) (jv v : Value) (J : Jn) (xs : List (List UInt8)) (h : MS w0 X d n D jv J w) (hL : Laid w0) (hp : D.pend = []) (hn3 : J ≠ none → 3 ≤ n) (hv : SR w X v xs) (hm : xs.length ≤ 50000) (hl : ∀ t ∈ xs, t.length ≤ 10000000) (ht : (textP xs).length ≤ 10000000) (hrl : (recsOf J).length + xs.length ≤ 100000) :
    Calls Tryz.prog 13 #[jv, v] w (JEnd MS w0 X d n jv (appP n D J xs) w) := by
  obtain ⟨F, h1, h2, h3⟩ := h.mem
  rcases h3 with ⟨rfl, rfl⟩ | ⟨c, recs, brk, jb, G, rfl, rfl, hj, hGX, hFG⟩
  · refine (append_nil_any w v).mono ?_
    rintro e w' ⟨rfl, hb⟩
    exact ⟨rfl, X, h.below hb, Stp.below hb⟩
  · have hL6 := hL.size
    have keep : ∀ {w'}, Below w.heap.size w w' → ∃ X', MS w0 X' d n D (.pointer (some ⟨jb, 0, none⟩)) (some (c, recs, brk)) w' ∧ Stp X w X' w' := fun hb => ⟨X, h.below hb, Stp.below hb⟩
    refine (append_any w F G jb d n c D recs xs brk v h1 hj hFG (hL.keep h.bd.bel) (hv.weak fun k _ e => e.elim (h2 k) (hGX k)) hm hl ht hrl (by rw [hp]; exact Nat.zero_le _) (fun k hk => Nat.le_trans hL6 (h.bd.ge k (h2 k hk))) (hn3 (by simp))).mono ?_
    rintro e w' (⟨rfl, rfl, hb⟩ | ⟨rfl, hlo, rfl, hb⟩ | ⟨rfl, hlo, hro, rfl, hb⟩ | ⟨rfl, rfl, rfl, hb⟩ | ⟨rfl, hlo, hx, hro, F', G', g1, g2, g3, g4⟩)
    · have e1 : appP n D (some (c, recs, true)) xs = (11, D, some (c, recs, true)) := by simp [appP]
      unfold JEnd
      rw [e1]
      exact ⟨rfl, keep hb⟩
    · have e1 : appP n D (some (c, recs, false)) xs = (2, D, some (c, recs, false)) := by simp [appP, hlo]
      unfold JEnd
      rw [e1]
      exact ⟨rfl, keep hb⟩
    · have e1 : appP n D (some (c, recs, false)) xs = (22, D, some (c, recs, false)) := by simp [appP, hlo, hro]
      unfold JEnd
      rw [e1]
      exact ⟨rfl, keep hb⟩
    · have e1 : appP n D (some (c, recs, false)) [] = (0, D, some (c, recs, false)) := by
        have : (pieces (textP [])).length = 0 := by rw [show pieces (textP []) = [] from pieces_nil]; rfl
        simp [appP, longB, this]
      unfold JEnd
      rw [e1]
      exact ⟨rfl, keep hb⟩
    · obtain ⟨b1, b2⟩ := h.bd.next g2 (fun k e => e.elim (h2 k) (hGX k)) (fun k e => e.elim (g1.lt k) (fun e => by rcases g4 with ⟨_, _, g5⟩ | ⟨_, _, g5⟩ <;> exact g5.lt k e))
      have hnr : ¬ n - 2 - c < (pieces (textP xs)).length := by omega
      rcases g4 with ⟨g5, rfl, g6⟩ | ⟨g5, rfl, g6⟩
      · have e1 : appP n D (some (c, recs, false)) xs = (0, (D.runs (appSegs c (pieces (textP xs)))).1, some (c + (pieces (textP xs)).length, recs ++ xs, false)) := by simp [appP, hlo, hnr, hx, g5]
        unfold JEnd
        rw [e1]
        exact ⟨rfl, _, ⟨b1, F', g1, fun k e => Or.inr (Or.inl e), Or.inr ⟨_, _, _, jb, G', rfl, rfl, g6, fun k e => Or.inr (Or.inr e), g3⟩⟩, b2⟩
      · have e1 : appP n D (some (c, recs, false)) xs = (21, (D.runs (appSegs c (pieces (textP xs)))).1, some (c, recs, true)) := by simp [appP, hlo, hnr, hx, g5]
        unfold JEnd
        rw [e1]
        exact ⟨rfl, _, ⟨b1, F', g1, fun k e => Or.inr (Or.inl e), Or.inr ⟨_, _, _, jb, G', rfl, rfl, g6, fun k e => Or.inr (Or.inr e), g3⟩⟩, b2⟩
theorem mt_append (w0 w : World) (X : Nat → Prop) (d n : Nat) (D : PD) (jv v : Value) (J : Jn) (xs : List (List UInt8)) (h : MT w0 X d n D jv J w) (hp : D.pend = []) (hv : SR w X v xs) (hm : xs.length ≤ 50000) (hl : ∀ t ∈ xs, t.length ≤ 10000000) (ht : (textP xs).length ≤ 10000000) (hrl : (recsOf J).length + xs.length ≤ 100000) :
    Calls Tryz.prog 28 #[jv, v] w (JEnd MT w0 X d n jv (appP n D J xs) w) := by
  obtain ⟨F, h1, h2, h3⟩ := h.mem
  have hv0 : SR w (fun _ => False) v xs := hv.weak (fun _ _ e => e.elim)
  rcases h3 with ⟨rfl, rfl⟩ | ⟨c, recs, brk, jb, G, rfl, rfl, hj, hGX, hFG⟩
  · refine (rappend_nil w v).mono ?_
    rintro e w' ⟨rfl, rfl⟩
    exact ⟨rfl, X, h, Stp.refl X w⟩
  · cases brk with
    | true =>
      have e1 : appP n D (some (c, recs, true)) xs = (11, D, some (c, recs, true)) := by simp [appP]
      unfold JEnd
      rw [e1]
      refine (rappend_brk w G jb d n c recs v hj).mono ?_
      rintro e w' ⟨rfl, rfl⟩
      exact ⟨rfl, X, h, Stp.refl X w⟩
    | false =>
      by_cases hlo : longB xs = true
      · have e1 : appP n D (some (c, recs, false)) xs = (2, D, some (c, recs, false)) := by simp [appP, hlo]
        unfold JEnd
        rw [e1]
        refine (rappend_long w G jb d n c recs xs v hj hv0 (by omega) hl hlo).mono ?_
        rintro e w' ⟨rfl, rfl⟩
        exact ⟨rfl, X, h, Stp.refl X w⟩
      have hlo : longB xs = false := by simpa using hlo
      by_cases hro : n - 2 - c < (pieces (textP xs)).length
      · have e1 : appP n D (some (c, recs, false)) xs = (22, D, some (c, recs, false)) := by simp [appP, hlo, hro]
        unfold JEnd
        rw [e1]
        refine (rappend_few w G jb d n c recs xs v 22 hj h1.n4 hv0 (by omega) hl ht hlo (Or.inl ⟨hro, rfl⟩)).mono ?_
        rintro e w' ⟨rfl, hb⟩
        exact ⟨rfl, X, h.below hb, Stp.below hb⟩
      by_cases hx : xs = []
      · have e1 : appP n D (some (c, recs, false)) xs = (0, D, some (c, recs, false)) := by
          have h0 : (pieces (textP [])).length = 0 := by rw [show pieces (textP []) = [] from pieces_nil]; rfl
          rw [hx]
          simp [appP, longB, h0]
        unfold JEnd
        rw [e1]
        refine (rappend_few w G jb d n c recs xs v 0 hj h1.n4 hv0 (by omega) hl ht hlo (Or.inr ⟨hx, rfl⟩)).mono ?_
        rintro e w' ⟨rfl, hb⟩
        exact ⟨rfl, X, h.below hb, Stp.below hb⟩
      refine (rappend_main w F G jb d n c D recs xs v h1 hj hFG (hv.weak fun k _ e => e.elim (h2 k) (hGX k)) (by omega) hx hlo ht (by omega) (by rw [hp]; exact Nat.zero_le _) hrl).mono ?_
      rintro e w' ⟨F', G', g1, g2, g3, g4⟩
      obtain ⟨b1, b2⟩ := h.bd.next g2 (fun k e => e.elim (h2 k) (hGX k)) (fun k e => e.elim (g1.lt k) (fun e => by rcases g4 with ⟨_, _, g5⟩ | ⟨_, _, g5⟩ <;> exact g5.lt k e))
      rcases g4 with ⟨g5, rfl, g6⟩ | ⟨g5, rfl, g6⟩
      · have e1 : appP n D (some (c, recs, false)) xs = (0, (D.runs (appSegs c (pieces (textP xs)))).1, some (c + (pieces (textP xs)).length, recs ++ xs, false)) := by simp [appP, hlo, hro, hx, g5]
        unfold JEnd
        rw [e1]
        exact ⟨rfl, _, ⟨b1, F', g1, fun k e => Or.inr (Or.inl e), Or.inr ⟨_, _, _, jb, G', rfl, rfl, g6, fun k e => Or.inr (Or.inr e), g3⟩⟩, b2⟩
      · have e1 : appP n D (some (c, recs, false)) xs = (21, (D.runs (appSegs c (pieces (textP xs)))).1, some (c, recs, true)) := by simp [appP, hlo, hro, hx, g5]
        unfold JEnd
        rw [e1]
        exact ⟨rfl, _, ⟨b1, F', g1, fun k e => Or.inr (Or.inl e), Or.inr ⟨_, _, _, jb, G', rfl, rfl, g6, fun k e => Or.inr (Or.inr e), g3⟩⟩, b2⟩
/-- how an Open ends -/
def OpnEnd (S : World → (Nat → Prop) → Nat → Nat → PD → Value → Jn → World → Prop) (w0 : World) (X : Nat → Prop) (d n : Nat) (D : PD) (w : World) (e : Ending) (w' : World) : Prop :=
  ∃ jv gv code E J X', e = .returned (.tuple #[jv, gv, .int .i64 code]) ∧ OpnR n D code E J ∧ S w0 X' d n E jv J w' ∧ Stp X w X' w' ∧ RS w0 X' gv (recsOf J) w' ∧ ∀ k, gv.ownBlock = some k → w.heap.size ≤ k
theorem rs_none (w0 w : World) (X : Nat → Prop) : RS w0 X (.slice none 0 0) [] w := ⟨World.ownsRow_nil _ _ _ _, fun x hx => by cases hx⟩
theorem ms_open (w0 w : World) (X : Nat → Prop) (d n : Nat) (D : PD) (jv : Value) (J : Jn) (h : MS w0 X d n D jv J w) (hL : Laid w0) (hp : D.pend = []) :
    Calls Tryz.prog 7 #[.pointer (some ⟨d, 0, none⟩)] w (OpnEnd MS w0 X d n D w) := by
  obtain ⟨F, h1, h2, _⟩ := h.mem
  have hL6 := hL.size
  have keep : ∀ {w'}, Below w.heap.size w w' → MS w0 X d n D (.pointer none) none w' := fun hb => ⟨h.bd.below hb, F, h1.below hb, h2, Or.inl ⟨rfl, rfl⟩⟩
  by_cases ho : D.off = true
  · refine (open_off w F d n D h1 ho).mono ?_
    rintro e w' ⟨rfl, hb⟩
    exact ⟨_, _, 21, D, none, X, rfl, Or.inl ⟨ho, rfl, rfl, rfl⟩, keep hb, Stp.below hb, rs_none _ _ _, fun k hk => by cases hk⟩
  have ho : D.off = false := by simpa using ho
  by_cases hn3 : n < 3
  · refine (open_few w F d n D h1 ho (by rw [hp]; exact Nat.zero_le _) hn3).mono ?_
    rintro e w' ⟨_, rfl, hb⟩
    exact ⟨_, _, 1, D, none, X, rfl, Or.inr (Or.inl ⟨ho, hn3, rfl, rfl, rfl⟩), keep hb, Stp.below hb, rs_none _ _ _, fun k hk => by cases hk⟩
  refine (open_main w F d n D h1 ho (by rw [hp]; exact Nat.zero_le _) (by omega) (fun k hk => Nat.le_trans hL6 (h.bd.ge k (h2 k hk))) (hL.keep h.bd.bel)).mono ?_
  rintro e w' (⟨g1, rfl, hb⟩ | ⟨c, recs, g1, g2, rfl, F', g3, g4⟩ | ⟨c, recs, g1, g2, jb, gv, F', G, rfl, g3, g4, g5, g6, g7, g8, g9⟩)
  · exact ⟨_, _, 20, D, none, X, rfl, Or.inr (Or.inr (Or.inl ⟨ho, by omega, g1, rfl, rfl, rfl⟩)), keep hb, Stp.below hb, rs_none _ _ _, fun k hk => by cases hk⟩
  · obtain ⟨b1, b2⟩ := h.bd.next g4 h2 g3.lt
    exact ⟨_, _, 21, _, none, _, rfl, Or.inr (Or.inr (Or.inr ⟨ho, by omega, c, recs, g1, rfl, Or.inl ⟨g2, rfl, rfl⟩⟩)), ⟨b1, F', g3, fun k e => Or.inr e, Or.inl ⟨rfl, rfl⟩⟩, b2, rs_none _ _ _, fun k hk => by cases hk⟩
  · have hs : Stp F w (fun k => F' k ∨ G k) w' := ⟨g4.out, fun k e => e.elim (g4.sub k) (fun e => Or.inr (g6 k e))⟩
    obtain ⟨b1, b2⟩ := h.bd.next hs h2 (fun k e => e.elim (g3.lt k) (g5.lt k))
    refine ⟨_, _, 0, _, some (c, recs, false), _, rfl, Or.inr (Or.inr (Or.inr ⟨ho, by omega, c, recs, g1, rfl, Or.inr ⟨g2, rfl, rfl⟩⟩)), ⟨b1, F', g3, fun k e => Or.inr (Or.inl e), Or.inr ⟨c, recs, false, jb, G, rfl, rfl, g5, fun k e => Or.inr (Or.inr e), g7⟩⟩, b2, ⟨own_low g8 h.bd.bel.size, fun k hk e => ?_⟩, fun k hk => (g8.lt k hk).1⟩
    rcases e with e | e
    · have := (g8.lt k hk).1; have := h.bd.lt k e; omega
    · exact e.elim (g9 k hk).1 (g9 k hk).2
theorem mt_open (w0 w : World) (X : Nat → Prop) (d n : Nat) (D : PD) (jv : Value) (J : Jn) (h : MT w0 X d n D jv J w) (hn1 : 1 ≤ n) (hp : D.pend = []) :
    Calls Tryz.prog 17 #[.pointer (some ⟨d, 0, none⟩)] w (OpnEnd MT w0 X d n D w) := by
  obtain ⟨F, h1, h2, _⟩ := h.mem
  have keep : ∀ {w'}, Below w.heap.size w w' → MT w0 X d n D (.pointer none) none w' := fun hb => ⟨h.bd.below hb, F, h1.below hb, h2, Or.inl ⟨rfl, rfl⟩⟩
  by_cases ho : D.off = true
  · refine (ropen_off w F d n D h1 ho).mono ?_
    rintro e w' ⟨rfl, rfl⟩
    exact ⟨_, _, 21, D, none, X, rfl, Or.inl ⟨ho, rfl, rfl, rfl⟩, keep (Below.refl _ _), Stp.refl _ _, rs_none _ _ _, fun k hk => by cases hk⟩
  have ho : D.off = false := by simpa using ho
  by_cases hn3 : n < 3
  · refine (ropen_few w F d n D h1 ho (by rw [hp]; exact Nat.zero_le _) hn1 hn3).mono ?_
    rintro e w' ⟨rfl, rfl⟩
    exact ⟨_, _, 1, D, none, X, rfl, Or.inr (Or.inl ⟨ho, hn3, rfl, rfl, rfl⟩), keep (Below.refl _ _), Stp.refl _ _, rs_none _ _ _, fun k hk => by cases hk⟩
  refine (ropen_main w F d n D h1 ho (by rw [hp]; exact Nat.zero_le _) (by omega)).mono ?_
  rintro e w' (⟨g1, rfl, hb⟩ | ⟨c, recs, g1, g2, rfl, F', g3, g4⟩ | ⟨c, recs, g1, g2, jb, gv, F', G, rfl, g3, g4, g5, g6, g7, g8, g9⟩)
  · exact ⟨_, _, 20, D, none, X, rfl, Or.inr (Or.inr (Or.inl ⟨ho, by omega, g1, rfl, rfl, rfl⟩)), keep hb, Stp.below hb, rs_none _ _ _, fun k hk => by cases hk⟩
  · obtain ⟨b1, b2⟩ := h.bd.next g4 h2 g3.lt
    exact ⟨_, _, 21, _, none, _, rfl, Or.inr (Or.inr (Or.inr ⟨ho, by omega, c, recs, g1, rfl, Or.inl ⟨g2, rfl, rfl⟩⟩)), ⟨b1, F', g3, fun k e => Or.inr e, Or.inl ⟨rfl, rfl⟩⟩, b2, rs_none _ _ _, fun k hk => by cases hk⟩
  · have hs : Stp F w (fun k => F' k ∨ G k) w' := ⟨g4.out, fun k e => e.elim (g4.sub k) (fun e => Or.inr (g6 k e))⟩
    obtain ⟨b1, b2⟩ := h.bd.next hs h2 (fun k e => e.elim (g3.lt k) (g5.lt k))
    refine ⟨_, _, 0, _, some (c, recs, false), _, rfl, Or.inr (Or.inr (Or.inr ⟨ho, by omega, c, recs, g1, rfl, Or.inr ⟨g2, rfl, rfl⟩⟩)), ⟨b1, F', g3, fun k e => Or.inr (Or.inl e), Or.inr ⟨c, recs, false, jb, G, rfl, rfl, g5, fun k e => Or.inr (Or.inr e), g7⟩⟩, b2, ⟨own_low g8 h.bd.bel.size, fun k hk e => ?_⟩, fun k hk => (g8.lt k hk).1⟩
    rcases e with e | e
    · have := (g8.lt k hk).1; have := h.bd.lt k e; omega
    · exact e.elim (g9 k hk).1 (g9 k hk).2
/-! what the two journals tell -/
theorem records_none (w : World) : Calls Tryz.prog 9 #[.pointer none] w fun e w' => ∃ g, e = .returned g ∧ SR w' (fun _ => False) g [] ∧ Below w.heap.size w w' := by
  go_enter Tryz.func9, Tryz.ntmps9
  go_wp2_with fail
  go_ret
  exact ⟨_, rfl, (rs_none w w (fun _ => False)).sr, Below.refl _ _⟩
theorem ms_records (w0 w : World) (X : Nat → Prop) (d n : Nat) (D : PD) (jv : Value) (J : Jn) (h : MS w0 X d n D jv J w) :
    Calls Tryz.prog 9 #[jv] w fun e w' => ∃ g, e = .returned g ∧ SR w' (fun _ => False) g (recsOf J) ∧ Below w.heap.size w w' := by
  obtain ⟨F, _, _, h3⟩ := h.mem
  rcases h3 with ⟨rfl, rfl⟩ | ⟨c, recs, brk, jb, G, rfl, rfl, hj, _⟩
  · exact records_none w
  · refine (records_any w G jb d n c recs brk hj).mono ?_
    rintro e w' ⟨g, rfl, ho, hb⟩
    exact ⟨g, rfl, SR.own ho (fun _ _ => id), hb⟩
theorem mt_records (w0 w : World) (X : Nat → Prop) (d n : Nat) (D : PD) (jv : Value) (J : Jn) (h : MT w0 X d n D jv J w) :
    Calls Tryz.prog 18 #[jv] w fun e w' => ∃ g, e = .returned g ∧ SR w' (fun _ => False) g (recsOf J) ∧ Below w.heap.size w w' := by
  obtain ⟨F, _, _, h3⟩ := h.mem
  rcases h3 with ⟨rfl, rfl⟩ | ⟨c, recs, brk, jb, G, rfl, rfl, hj, _⟩
  · refine (rrecords_nil w).mono ?_
    rintro e w' ⟨rfl, rfl⟩
    exact ⟨_, rfl, (rs_none w w (fun _ => False)).sr, Below.refl _ _⟩
  · refine (rrecords_any w G jb d n c recs brk hj).mono ?_
    rintro e w' ⟨g, rfl, hs, rfl⟩
    exact ⟨g, rfl, hs, Below.refl _ _⟩
theorem ms_room (w0 w : World) (X : Nat → Prop) (d n : Nat) (D : PD) (jv : Value) (J : Jn) (h : MS w0 X d n D jv J w) :
    Calls Tryz.prog 14 #[jv] w fun e w' => e = .returned (.int .i64 (roomOf n J : Nat)) ∧ Below w.heap.size w w' := by
  obtain ⟨F, h1, _, h3⟩ := h.mem
  rcases h3 with ⟨rfl, rfl⟩ | ⟨c, recs, brk, jb, G, rfl, rfl, hj, _⟩
  · refine (room_nil w).mono ?_
    rintro e w' ⟨rfl, rfl⟩
    exact ⟨rfl, Below.refl _ _⟩
  · exact room_any w G jb d n c recs brk hj h1.n4
theorem mt_room (w0 w : World) (X : Nat → Prop) (d n : Nat) (D : PD) (jv : Value) (J : Jn) (h : MT w0 X d n D jv J w) :
    Calls Tryz.prog 19 #[jv] w fun e w' => e = .returned (.int .i64 (roomOf n J : Nat)) ∧ Below w.heap.size w w' := by
  obtain ⟨F, h1, _, h3⟩ := h.mem
  rcases h3 with ⟨rfl, rfl⟩ | ⟨c, recs, brk, jb, G, rfl, rfl, hj, _⟩
  · refine (rroom_nil w).mono ?_
    rintro e w' ⟨rfl, rfl⟩
    exact ⟨rfl, Below.refl _ _⟩
  · exact rroom_any w G jb d n c recs brk hj h1.n4
/-- both sides, apart from each other -/
structure BS (w0 : World) (X Y : Nat → Prop) (d b n : Nat) (D E : PD) (jv kv : Value) (J K : Jn) (w : World) : Prop where
  M : MS w0 X d n D jv J w
  T : MT w0 Y b n E kv K w
  sep : ∀ k, X k → ¬ Y k
theorem BS.below {w0 w w' : World} {X Y : Nat → Prop} {d b n : Nat} {D E : PD} {jv kv : Value} {J K : Jn} (h : BS w0 X Y d b n D E jv kv J K w) (hb : Below w.heap.size w w') : BS w0 X Y d b n D E jv kv J K w' := ⟨h.M.below hb, h.T.below hb, h.sep⟩
theorem BS.left {w0 w w' : World} {X X' Y : Nat → Prop} {d b n : Nat} {D D' E : PD} {jv jv' kv : Value} {J J' K : Jn} (h : BS w0 X Y d b n D E jv kv J K w) (hm : MS w0 X' d n D' jv' J' w') (hs : Stp X w X' w') : BS w0 X' Y d b n D' E jv' kv J' K w' :=
  ⟨hm, h.T.far hs h.M.bd.ge h.sep, apart hs h.T.bd.lt h.sep⟩
theorem BS.right {w0 w w' : World} {X Y Y' : Nat → Prop} {d b n : Nat} {D E E' : PD} {jv kv kv' : Value} {J K K' : Jn} (h : BS w0 X Y d b n D E jv kv J K w) (hm : MT w0 Y' b n E' kv' K' w') (hs : Stp Y w Y' w') : BS w0 X Y' d b n D E' jv kv' J K' w' :=
  ⟨h.M.far hs h.T.bd.ge (fun k y x => h.sep k x y), hm, fun k x y => apart hs h.M.bd.lt (fun k y x => h.sep k x y) k y x⟩
theorem BS.shape {w0 w : World} {X Y : Nat → Prop} {d b n : Nat} {D E : PD} {jv kv : Value} {J : Jn} (h : BS w0 X Y d b n D E jv kv J J w) : (jv = .pointer none ∧ kv = .pointer none) ∨ ∃ jb kb, jv = .pointer (some ⟨jb, 0, none⟩) ∧ kv = .pointer (some ⟨kb, 0, none⟩) := by
  obtain ⟨_, _, _, h3⟩ := h.M.mem
  obtain ⟨_, _, _, g3⟩ := h.T.mem
  rcases h3 with ⟨e, rfl⟩ | ⟨c, recs, brk, jb, G, e, rfl, _⟩ <;> rcases g3 with ⟨e', rfl⟩ | ⟨c', recs', brk', kb, G', e', rfl, _⟩
  · exact Or.inl ⟨rfl, rfl⟩
  · rw [e] at e'; cases e'
  · rw [e] at e'; cases e'
  · exact Or.inr ⟨_, _, rfl, rfl⟩
theorem wideR {Y Y' : Nat → Prop} {w w' : World} (h : Stp Y w Y' w') (X : Nat → Prop) : Stp (fun k => X k ∨ Y k) w (fun k => X k ∨ Y' k) w' :=
  ⟨h.out.mono fun _ _ e => Or.inr e, fun k e => by
    rcases e with e | e
    · exact Or.inl (Or.inl e)
    · rcases h.sub k e with y | y
      · exact Or.inl (Or.inr y)
      · exact Or.inr y⟩
/-- a block that nobody else writes -/
structure OB (Z : Nat → Prop) (q : Nat) (cs : Array Value) (t : TypeId) (w : World) : Prop where
  heap : w.heap[q]? = some (.cells cs t (0, 0))
  far : ¬ Z q
theorem OB.stp {Z Z' : Nat → Prop} {q : Nat} {cs : Array Value} {t : TypeId} {w w' : World} (h : OB Z q cs t w) (hs : Stp Z w Z' w') : OB Z' q cs t w' :=
  ⟨hs.out.heap h.heap h.far, fun e => by
    rcases hs.sub q e with y | y
    · exact h.far y
    · have := heap_lt h.heap; omega⟩
theorem fail_pend (D : PD) (x y : Int) (h : D.pend = []) : (D.fail x y).pend = [] := by
  unfold PD.fail
  split
  · exact h
  · rfl
theorem arm_pend (D : PD) (a x y : Int) : (D.arm a x y).pend = D.pend := by
  unfold PD.arm
  split <;> rfl
theorem rot_pend (D : PD) (a x y : Int) : (D.rot a x y).pend = D.pend := by
  unfold PD.rot
  split <;> rfl
theorem OpnR.n3 {n : Nat} {D D1 : PD} {c : Int} {J : Jn} (h : OpnR n D c D1 J) : J ≠ none → 3 ≤ n := by
  rcases h with ⟨_, _, _, rfl⟩ | ⟨_, _, _, _, rfl⟩ | ⟨_, _, _, _, _, rfl⟩ | ⟨_, h3, _⟩
  · intro e; exact absurd rfl e
  · intro e; exact absurd rfl e
  · intro e; exact absurd rfl e
  · exact fun _ => h3
theorem appP_some (n : Nat) (D : PD) (J : Jn) (xs : List (List UInt8)) (h : (appP n D J xs).2.2 ≠ none) : J ≠ none := by
  intro e
  subst e
  exact h rfl
theorem MS.al {w0 w : World} {X : Nat → Prop} {d n : Nat} {D : PD} {jv : Value} {J : Jn} (h : MS w0 X d n D jv J w) : ∀ a x y, D.alarm = some (a, x, y) → 0 ≤ a ∧ a ≤ 9223372036854775807 := by
  obtain ⟨F, h1, _⟩ := h.mem
  exact h1.vd.al
end Go.Proofs.YtihoomlaggihlaaGreatDoor
