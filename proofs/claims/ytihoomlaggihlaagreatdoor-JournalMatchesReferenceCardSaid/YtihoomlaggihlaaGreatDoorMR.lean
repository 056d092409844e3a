/- From the rows' condition to the tables and variables in memory; operations and texts read out of arguments; the last step of a law's row. Under no condition. -/
/- Operations read out of arguments, their numbers in range. Under no condition. -/
import Derived.Test.YtihoomlaggihlaaGreatDoorLJ
import Derived.ProofKit
import Derived.LaidMore
import Derived.OpenShut
import Derived.Stop.Joined
import Derived.Stop.LaidErr
import Derived.Lib.LaidTab
import Derived.HandedShaped
import Derived.Lay
import Derived.Carry
import Derived.Deep.Slices
import Derived.Lib.SmallJoins
import Derived.SizedLaws
namespace Go.Proofs.YtihoomlaggihlaaGreatDoor
open Go.ChangeShapes Go.WideShapes Go.ChangeAt Go.RowKit Go.Deep

theorem own : ownKnob Tryz.prog.godebug = none := by kernel_rfl
/-- the five variables that the row lists -/
abbrev laid5 : List (String × DataW Unit) := [("math/bits.deBruijn32tab", Rows.laid_math_bits_deBruijn32tab), ("math/bits.deBruijn64tab", Rows.laid_math_bits_deBruijn64tab), ("internal/strconv.uint64pow10", Rows.laid_internal_strconv_uint64pow10), ("strconv.ErrRange", Rows.laid_strconv_ErrRange), ("strconv.ErrSyntax", Rows.laid_strconv_ErrSyntax)]

theorem starred : "*" ++ "errors.errorString" = "*errors.errorString" := by decide
theorem errRow (u : TypeId) (h : Tryz.prog.typeName? 3 u = some "*errors.errorString") : u = 142 :=
  typeName_ptr_named (nm := "errors.errorString") (by rw [starred]; kernel_rfl) (by kernel_rfl) (by decide) u (by rw [starred]; exact h)

theorem laid_of5 {W : World} (h : laidMetH Tryz.prog laid5 W) (hsh : W.ShapedOpen Tryz.prog) : Laid W := by
  rw [MakeChecks.laidMetH_plain _ _ _ (by kernel_rfl)] at h
  have h2 := h.tail
  have h3 := h2.tail
  have h4 := h3.tail
  have h5 := h4.tail
  have t1 : Lib.TabIs Tryz.prog W "math/bits.deBruijn64tab" .u8 [0, 1, 56, 2, 57, 49, 28, 3, 61, 58, 42, 50, 38, 29, 17, 4, 62, 47, 59, 36, 45, 43, 51, 22, 53, 39, 33, 30, 24, 18, 12, 5, 63, 55, 48, 27, 60, 41, 37, 16, 46, 35, 44, 21, 52, 32, 23, 11, 54, 26, 40, 15, 34, 20, 31, 10, 25, 14, 19, 9, 13, 8, 7, 6] := Lib.tabIs_of_head (g := 5) (t := 163) (e := 5) (n := 64) (by kernel_rfl) (by kernel_rfl) Tryz.underlying163 Tryz.underlying5 (by kernel_rfl) (by kernel_rfl) (rest := _) h2
  have t2 : Lib.TabIs Tryz.prog W "internal/strconv.uint64pow10" .u64 Lib.pow10Tab := Lib.tabIs_of_head (g := 3) (t := 157) (e := 123) (n := 20) (by kernel_rfl) (by kernel_rfl) Tryz.underlying157 Tryz.underlying123 (by kernel_rfl) (by kernel_rfl) (rest := _) h3
  obtain ⟨a1, s1, hv1, -, -, -⟩ := laid_sentinel (g := 1) (ti := 60) (te := 144) h4 (by kernel_rfl) (by kernel_rfl) Tryz.underlying60 errRow Tryz.underlying142 Tryz.underlying144 rfl rfl Tryz.underlying9 (by kernel_rfl) (by kernel_rfl)
  obtain ⟨a2, s2, hv2, -, -, -⟩ := laid_sentinel (g := 0) (ti := 60) (te := 144) h5 (by kernel_rfl) (by kernel_rfl) Tryz.underlying60 errRow Tryz.underlying142 Tryz.underlying144 rfl rfl Tryz.underlying9 (by kernel_rfl) (by kernel_rfl)
  have tz := t1.cell (g := 5) (by kernel_rfl) 15 (by decide)
  refine ⟨tz, t2, ⟨_, by have h0 := World.var?_cell (g := 0) (by kernel_rfl) hv2 0; simpa using h0, Or.inr ⟨_, _, rfl⟩⟩, ⟨_, by have h0 := World.var?_cell (g := 1) (by kernel_rfl) hv1 0; simpa using h0, Or.inr ⟨_, _, rfl⟩⟩,
    cell_of_shapedOpen_int (zero := #[.int .i64 0]) (t := 3) hsh (of_decide_eq_true (by kernel_rfl)) (by kernel_rfl) rfl (by kernel_rfl) (by kernel_rfl) Tryz.underlying3, ?_⟩
  have := World.block_lt_of_cell? _ _ tz
  exact this

set_option maxRecDepth 100000 in
theorem door_met5 (os : Os) (args : Array Value) : laidMetH Tryz.prog laid5 ((World.laidAll Tryz.prog os laid5).forCall (fun _ _ => 0) ⟨#[], args, []⟩).memory := by
  rw [MakeChecks.laidMetH_plain _ _ _ (by kernel_rfl)]; exact laidMet_laidAll _ (by kernel_rfl) (by kernel_rfl)
section
variable {H : Type} {enc : TypeId × Value → H}
/-- arguments read as before where nothing that lay there has turned -/
theorem args_stay {P : Program} (hl : laidOutB P = true) {W W' : World} (hb : Below W.heap.size W W') : ∀ {ts : List TypeId} {vs : List Value} {ds : List (DataW H)} {ps : List MemPlace},
    (∀ t ∈ ts, P.readableRec t = true ∧ t < P.types.size) → DataW.TrodAll enc P W 0 (fun _ => true) true ts vs ds ps → (∀ x ∈ ps, x.block < W.heap.size) → DataW.TrodAll enc P W' 0 (fun b => decide (b < W.heap.size)) true ts vs ds ps
  | [], vs, ds, ps, _, h, _ => by
    obtain ⟨rfl, rfl, rfl⟩ := trodAll_nil h
    exact trodAll_mk0
  | t :: ts, vs, ds, ps, hr, h, hlt => by
    obtain ⟨v, vs', d, ds', p, q, rfl, rfl, rfl, h1, h2⟩ := trodAll_cons h
    have ht := hr t (List.mem_cons_self ..)
    exact trodAll_cons_mk (Below.trod hl ht.1 ht.2 h1 hb (fun x hx => hlt x (List.mem_append.2 (Or.inl hx))))
      (args_stay hl hb (fun t' ht' => hr t' (List.mem_cons_of_mem _ ht')) h2 (fun x hx => hlt x (List.mem_append.2 (Or.inr hx))))

theorem laidOut : laidOutB Tryz.prog = true := by kernel_rfl
/-- a law's last step: it has returned true, and all that lay in memory is as it was -/
theorem law_end {f : Func} {s : ChangeSpec} {W W' : World} {args : Array Value} {ds : List (DataW H)} {before : List MemPlace}
    (hW : DataW.Whole enc Tryz.prog f.params.toList s.vars false W args.toList ds [] before) (hvs : s.vars = []) (hR : f.resultTypes = #[4])
    (hl : laidOutB Tryz.prog = true) (hr : ∀ t ∈ f.params.toList, Tryz.prog.readableRec t = true ∧ t < Tryz.prog.types.size)
    (hfn : s.fn H (ds ++ []) = { results := [.lit (.bool true)], args := ds })
    (hb : Below W.heap.size W W') : s.post enc Tryz.prog f false true false false W args (.bool true) W' := by
  have hlt : ∀ p ∈ before, p.block < W.heap.size := fun p hp => hW.lt p hp
  have hW' := hW
  obtain ⟨p, q, hA, hV, rfl, hz, hn⟩ := hW
  rw [hvs] at hV
  obtain ⟨_, rfl⟩ := trodVars_none hV
  refine ⟨ds, [], p ++ [], [], p, [], hW', ?_, ?_, ?_, World.keptBut_mono (fun x hx => ⟨hx, Or.inr (by simpa using hx)⟩) (hb.frame (· ∈ p ++ [])), fun h => by cases h⟩
  · rw [hfn, hR]; exact trodAll_mk1 (shut_bool Tryz.underlying4 _)
  · rw [hfn]; exact args_stay hl hb hr hA (fun x hx => hlt x (by simpa using hx))
  · rw [hfn, hvs]; rfl
theorem spot_none {W : World} {a : Addr} {v : Value} (h : W.cell? a = some v) : a.spot = Option.none := by
  unfold World.cell? at h
  split at h
  · cases hs : a.spot with
    | none => rfl
    | some x => rw [hs] at h; simp at h
  · cases h
/-- a list out of its members -/
theorem list_of {α : Type} {p : Nat → α → Prop} (n : Nat) (h : ∀ i, i < n → ∃ x, p i x) : ∃ l : List α, l.length = n ∧ ∀ j (hj : j < l.length), p j l[j] := by
  induction n with
  | zero => exact ⟨[], rfl, fun j hj => by simp at hj⟩
  | succ k ih =>
    obtain ⟨l, hll, hlc⟩ := ih (fun i hi => h i (by omega))
    obtain ⟨o, ho⟩ := h k (by omega)
    refine ⟨l ++ [o], by simp [hll], fun j hj => ?_⟩
    by_cases hjk : j < l.length
    · rw [List.getElem_append_left hjk]; exact hlc j hjk
    · have ej : j = l.length := by simp at hj; omega
      subst ej
      rw [List.getElem_append_right (Nat.le_refl _)]
      simp only [Nat.sub_self, List.getElem_cons_zero]
      rw [hll]
      exact ho
theorem mem_all {P : Program} {e : TypeId} {d : DataW H} {n : Nat} (hn : n ∈ d.weights P e) : ∀ {ds : List (DataW H)}, d ∈ ds → n ∈ DataW.weightsAll P e ds
  | d0 :: ds, h => by
    simp only [DataW.weightsAll, List.mem_append]
    rcases List.mem_cons.1 h with rfl | h
    · exact Or.inl hn
    · exact Or.inr (mem_all hn h)
theorem mem_slice {P : Program} {t e : TypeId} {els sp : List (DataW H)} {d : DataW H} {n : Nat} (hu : P.underlying t = some (.slice e)) (hn : n ∈ d.weights P e) (h : d ∈ els) : n ∈ (DataW.slice els sp).weights P t := by
  simp only [DataW.weights, hu, List.mem_cons, List.mem_append]
  exact Or.inr (Or.inl (mem_all hn h))
set_option maxRecDepth 100000 in
/-- a slice of texts -/
theorem trod_strs {W : World} {base fuel : Nat} {sp : Nat → Bool} {cs : List Value} {x : DataW H × List MemPlace} (hf : DataW.trod enc Tryz.prog W base sp true fuel 26 cs = some x) :
    ∃ v l, cs = [v] ∧ SR W (fun _ => False) v l ∧ ∀ t ∈ l, t.length ∈ x.1.weights Tryz.prog 26 := by
  rcases open_slice Tryz.underlying26 hf with ⟨hcs, _⟩ | ⟨a, n, c, m, fl, D, Pl, hcs, hb, hl, hm, hmm, hx, hi⟩
  · exact ⟨_, [], hcs, ⟨Option.none, 0, rfl, by simp, fun k hk => by simp at hk⟩, by simp⟩
  · have hC : Tryz.prog.cellsOf 9 = 1 := by kernel_rfl
    have key : ∀ i, i < n → ∃ s : List UInt8, W.cell? (a.add i) = some (.string ⟨s.toArray⟩) ∧ s.length ∈ x.1.weights Tryz.prog 26 := fun i hin => by
      obtain ⟨cs', h1, h2⟩ := hi i (by rw [hmm]; split <;> omega)
      rw [hC] at h1
      obtain ⟨_, hlen, hat⟩ := World.cells?_some h1
      obtain ⟨s, rfl, hd, _⟩ := DataW.trod_string Tryz.underlying9 h2
      have h0 := hat 0 (by decide)
      refine ⟨s.data.toList, ?_, by rw [hx]; exact mem_slice (d := D i) Tryz.underlying26 (by rw [(Prod.mk.inj hd).1]; simp [DataW.weights]) (List.mem_map.2 ⟨i, List.mem_range.2 hin, rfl⟩)⟩
      rw [Nat.mul_one, Addr.add_add, Nat.add_zero] at h0
      simpa using h0
    obtain ⟨l, rfl, hlc⟩ := list_of n key
    refine ⟨_, l, hcs, ⟨some a, c, rfl, hl, fun k hk => ?_⟩, fun t ht => ?_⟩
    · have h0 := (hlc k hk).1
      have hs : a.spot = Option.none := by
        have g0 := (hlc 0 (by omega)).1
        rw [show a.add 0 = a from rfl] at g0
        exact spot_none g0
      obtain ⟨b, off, spt⟩ := a
      dsimp only at hs
      subst hs
      rw [Addr.add_lit] at h0
      exact ⟨b, off, rfl, id, h0⟩
    · obtain ⟨j, hj, rfl⟩ := List.getElem_of_mem ht
      exact (hlc j hj).2
set_option maxRecDepth 100000 in
/-- an operation's cells -/
theorem trod_op {w : World} {base fuel : Nat} {sp : Nat → Bool} {cs : List Value} {x : DataW H × List MemPlace} (h : DataW.trod enc Tryz.prog w base sp true fuel 36 cs = some x) :
    ∃ (o : ROp) (sv : Value), cs = [.int .i64 o.kind, sv, .int .i64 o.spot, .int .i64 o.writes, .int .i64 o.bytes] ∧ SR w (fun _ => False) sv o.list ∧ ∀ t ∈ o.list, t.length ∈ x.1.weights Tryz.prog 36 := by
  obtain ⟨xs, n, _, hx, hl, hlen, hf⟩ := DataW.trod_struct Tryz.underlying36 h
  have hC : Tryz.prog.cellsOf 36 = 5 := by kernel_rfl
  have hC27 : Tryz.prog.cellsOf 26 = 1 := by kernel_rfl
  have hC3 : Tryz.prog.cellsOf 3 = 1 := by kernel_rfl
  rw [hC] at hl
  match cs, hl with
  | [c0, c1, c2, c3, c4], _ =>
    match xs, hlen with
    | [y0, y1, y2, y3, y4], _ =>
      have t0 : DataW.trod enc Tryz.prog w base sp true n 3 (([c0, c1, c2, c3, c4].drop 0).take (Tryz.prog.cellsOf 3)) = some y0 := hf 0 _ rfl
      have t1 : DataW.trod enc Tryz.prog w base sp true n 26 (([c0, c1, c2, c3, c4].drop 1).take (Tryz.prog.cellsOf 26)) = some y1 := hf 1 _ rfl
      have t2 : DataW.trod enc Tryz.prog w base sp true n 3 (([c0, c1, c2, c3, c4].drop 2).take (Tryz.prog.cellsOf 3)) = some y2 := hf 2 _ rfl
      have t3 : DataW.trod enc Tryz.prog w base sp true n 3 (([c0, c1, c2, c3, c4].drop 3).take (Tryz.prog.cellsOf 3)) = some y3 := hf 3 _ rfl
      have t4 : DataW.trod enc Tryz.prog w base sp true n 3 (([c0, c1, c2, c3, c4].drop 4).take (Tryz.prog.cellsOf 3)) = some y4 := hf 4 _ rfl
      simp only [hC3, hC27, List.drop_zero, List.drop_succ_cons, List.take_succ_cons, List.take_zero] at t0 t1 t2 t3 t4
      obtain ⟨a0, e0, _, _⟩ := DataW.trod_int Tryz.underlying3 t0
      obtain ⟨sv, l, e1, hs, hz⟩ := trod_strs t1
      obtain ⟨a2, e2, _, _⟩ := DataW.trod_int Tryz.underlying3 t2
      obtain ⟨a3, e3, _, _⟩ := DataW.trod_int Tryz.underlying3 t3
      obtain ⟨a4, e4, _, _⟩ := DataW.trod_int Tryz.underlying3 t4
      simp at e0 e1 e2 e3 e4
      subst e0 e1 e2 e3 e4
      refine ⟨⟨a0, l, a2, a3, a4⟩, c1, rfl, hs, fun t ht => ?_⟩
      rw [hx]
      simp only [DataW.weights, Tryz.underlying36]
      exact DataW.weights_mem_each (j := 1) (t := 26) (d := y1.1) rfl rfl _ (hz t ht)
set_option maxRecDepth 100000 in
/-- a slice of operations -/
theorem open_ops {W : World} {base : Nat} {r : Reach} {b0 : Nat} {v : Value} {d : DataW H} {p : List MemPlace} (hv : Value.okWide Tryz.prog W r b0 22 v) (h : DataW.Trod enc Tryz.prog W base (fun _ => true) true 22 v d p) :
    ∃ A l c, v = .slice A (List.length l) c ∧ RdP W A l ∧ ∀ o ∈ l, ∀ t ∈ o.list, t.length ∈ d.weights Tryz.prog 22 := by
  obtain ⟨a0, n, c, rfl⟩ := okWide_slice Tryz.underlying22 hv
  obtain ⟨fuel, hf⟩ := h
  rcases open_slice Tryz.underlying22 hf with ⟨hcs, _⟩ | ⟨a, len, cap, m, fl, D, Pl, hcs, hb, hl, hm, hmm, hx, hi⟩
  · simp [Value.cells] at hcs
    obtain ⟨rfl, rfl, rfl⟩ := hcs
    exact ⟨Option.none, [], 0, rfl, (fun k hk => by simp at hk), by simp⟩
  · simp [Value.cells] at hcs
    obtain ⟨rfl, rfl, rfl⟩ := hcs
    have hC : Tryz.prog.cellsOf 36 = 5 := by kernel_rfl
    have key : ∀ i, i < n → ∃ o : ROp, (∃ sv, (∀ k x, [Value.int .i64 o.kind, sv, .int .i64 o.spot, .int .i64 o.writes, .int .i64 o.bytes][k]? = some x → W.cell? ((a.add (i * 5)).add k) = some x) ∧ SR W (fun _ => False) sv o.list) ∧ ∀ t ∈ o.list, t.length ∈ d.weights Tryz.prog 22 := fun i hin => by
      obtain ⟨cs', h1, h2⟩ := hi i (by simp at hmm; omega)
      rw [hC] at h1
      obtain ⟨_, hlen, hat⟩ := World.cells?_some h1
      obtain ⟨o, sv, rfl, hs, hz⟩ := trod_op h2
      refine ⟨o, ⟨sv, fun k x hk => ?_, hs⟩, fun t ht => by rw [(Prod.mk.inj hx).1]; exact mem_slice (d := D i) Tryz.underlying22 (hz t ht) (List.mem_map.2 ⟨i, List.mem_range.2 hin, rfl⟩)⟩
      have hk5 : k < 5 := by
        by_cases e : k < 5
        · exact e
        · rw [List.getElem?_eq_none (by simp; omega)] at hk; cases hk
      rw [hat k hk5]
      exact hk
    obtain ⟨l, rfl, hlc⟩ := list_of n key
    refine ⟨some a, l, c, rfl, fun k hk => ?_, fun o ho => ?_⟩
    · obtain ⟨⟨sv, h0, hs⟩, _⟩ := hlc k hk
      have hsp : a.spot = Option.none := by
        obtain ⟨⟨sv', g0, _⟩, _⟩ := hlc 0 (by omega)
        have g0 := g0 0 _ rfl
        rw [Nat.zero_mul, show (a.add 0).add 0 = a from rfl] at g0
        exact spot_none g0
      obtain ⟨b, off, spt⟩ := a
      dsimp only at hsp
      subst hsp
      have e : ∀ i x, [Value.int .i64 l[k].kind, sv, .int .i64 l[k].spot, .int .i64 l[k].writes, .int .i64 l[k].bytes][i]? = some x → W.cell? ⟨b, off + k * 5 + i, Option.none⟩ = some x := fun i x hi => by
        have := h0 i x hi
        rwa [Addr.add_lit, Addr.add_lit] at this
      exact ⟨b, off, sv, rfl, e 0 _ rfl, e 1 _ rfl, e 2 _ rfl, e 3 _ rfl, e 4 _ rfl, hs⟩
    · obtain ⟨j, hj, rfl⟩ := List.getElem_of_mem ho
      exact (hlc j hj).2
set_option maxRecDepth 100000 in
/-- texts of an argument -/
theorem open_strs {W : World} {base : Nat} {r : Reach} {b0 : Nat} {v : Value} {d : DataW H} {p : List MemPlace} (hv : Value.okWide Tryz.prog W r b0 26 v) (h : DataW.Trod enc Tryz.prog W base (fun _ => true) true 26 v d p) :
    ∃ l, SR W (fun _ => False) v l := by
  obtain ⟨a0, n, c, rfl⟩ := okWide_slice Tryz.underlying26 hv
  obtain ⟨fuel, hf⟩ := h
  obtain ⟨v, l, e, h1, _⟩ := trod_strs hf
  simp [Value.cells] at e
  subst e
  exact ⟨l, h1⟩
end
end Go.Proofs.YtihoomlaggihlaaGreatDoor

namespace Go.Proofs.YtihoomlaggihlaaGreatDoor
open Go.ChangeShapes Go.WideShapes Go.ChangeAt Go.RowKit Go.Deep
theorem max_i64 {a : Int} (h : (Lit.int IntKind.i64 a).wf = true) : a ≤ 9223372036854775807 := by
  simp only [Lit.wf, Bool.and_eq_true, decide_eq_true_eq] at h
  have e : IntKind.i64.max = 9223372036854775807 := by decide
  rw [e] at h
  exact h.2
section
variable {H : Type} {enc : TypeId × Value → H}
set_option maxRecDepth 100000 in
/-- an operation's cells -/
theorem trod_op2 {w : World} {base fuel : Nat} {sp : Nat → Bool} {cs : List Value} {x : DataW H × List MemPlace} (h : DataW.trod enc Tryz.prog w base sp true fuel 36 cs = some x) :
    ∃ (o : ROp) (sv : Value), cs = [.int .i64 o.kind, sv, .int .i64 o.spot, .int .i64 o.writes, .int .i64 o.bytes] ∧ SR w (fun _ => False) sv o.list ∧ (∀ t ∈ o.list, t.length ∈ x.1.weights Tryz.prog 36) ∧ o.spot ≤ 9223372036854775807 := by
  obtain ⟨xs, n, _, hx, hl, hlen, hf⟩ := DataW.trod_struct Tryz.underlying36 h
  have hC : Tryz.prog.cellsOf 36 = 5 := by kernel_rfl
  have hC27 : Tryz.prog.cellsOf 26 = 1 := by kernel_rfl
  have hC3 : Tryz.prog.cellsOf 3 = 1 := by kernel_rfl
  rw [hC] at hl
  match cs, hl with
  | [c0, c1, c2, c3, c4], _ =>
    match xs, hlen with
    | [y0, y1, y2, y3, y4], _ =>
      have t0 : DataW.trod enc Tryz.prog w base sp true n 3 (([c0, c1, c2, c3, c4].drop 0).take (Tryz.prog.cellsOf 3)) = some y0 := hf 0 _ rfl
      have t1 : DataW.trod enc Tryz.prog w base sp true n 26 (([c0, c1, c2, c3, c4].drop 1).take (Tryz.prog.cellsOf 26)) = some y1 := hf 1 _ rfl
      have t2 : DataW.trod enc Tryz.prog w base sp true n 3 (([c0, c1, c2, c3, c4].drop 2).take (Tryz.prog.cellsOf 3)) = some y2 := hf 2 _ rfl
      have t3 : DataW.trod enc Tryz.prog w base sp true n 3 (([c0, c1, c2, c3, c4].drop 3).take (Tryz.prog.cellsOf 3)) = some y3 := hf 3 _ rfl
      have t4 : DataW.trod enc Tryz.prog w base sp true n 3 (([c0, c1, c2, c3, c4].drop 4).take (Tryz.prog.cellsOf 3)) = some y4 := hf 4 _ rfl
      simp only [hC3, hC27, List.drop_zero, List.drop_succ_cons, List.take_succ_cons, List.take_zero] at t0 t1 t2 t3 t4
      obtain ⟨a0, e0, _, _⟩ := DataW.trod_int Tryz.underlying3 t0
      obtain ⟨sv, l, e1, hs, hz⟩ := trod_strs t1
      obtain ⟨a2, e2, _, w2⟩ := DataW.trod_int Tryz.underlying3 t2
      obtain ⟨a3, e3, _, _⟩ := DataW.trod_int Tryz.underlying3 t3
      obtain ⟨a4, e4, _, _⟩ := DataW.trod_int Tryz.underlying3 t4
      simp at e0 e1 e2 e3 e4
      subst e0 e1 e2 e3 e4
      refine ⟨⟨a0, l, a2, a3, a4⟩, c1, rfl, hs, fun t ht => ?_, max_i64 w2⟩
      rw [hx]
      simp only [DataW.weights, Tryz.underlying36]
      exact DataW.weights_mem_each (j := 1) (t := 26) (d := y1.1) rfl rfl _ (hz t ht)
set_option maxRecDepth 100000 in
/-- a slice of operations -/
theorem open_ops2 {W : World} {base : Nat} {r : Reach} {b0 : Nat} {v : Value} {d : DataW H} {p : List MemPlace} (hv : Value.okWide Tryz.prog W r b0 22 v) (h : DataW.Trod enc Tryz.prog W base (fun _ => true) true 22 v d p) :
    ∃ A l c, v = .slice A (List.length l) c ∧ RdP W A l ∧ (∀ o ∈ l, ∀ t ∈ o.list, t.length ∈ d.weights Tryz.prog 22) ∧ ∀ o ∈ l, o.spot ≤ 9223372036854775807 := by
  obtain ⟨a0, n, c, rfl⟩ := okWide_slice Tryz.underlying22 hv
  obtain ⟨fuel, hf⟩ := h
  rcases open_slice Tryz.underlying22 hf with ⟨hcs, _⟩ | ⟨a, len, cap, m, fl, D, Pl, hcs, hb, hl, hm, hmm, hx, hi⟩
  · simp [Value.cells] at hcs
    obtain ⟨rfl, rfl, rfl⟩ := hcs
    exact ⟨Option.none, [], 0, rfl, (fun k hk => by simp at hk), by simp, by simp⟩
  · simp [Value.cells] at hcs
    obtain ⟨rfl, rfl, rfl⟩ := hcs
    have hC : Tryz.prog.cellsOf 36 = 5 := by kernel_rfl
    have key : ∀ i, i < n → ∃ o : ROp, (∃ sv, (∀ k x, [Value.int .i64 o.kind, sv, .int .i64 o.spot, .int .i64 o.writes, .int .i64 o.bytes][k]? = some x → W.cell? ((a.add (i * 5)).add k) = some x) ∧ SR W (fun _ => False) sv o.list) ∧ (∀ t ∈ o.list, t.length ∈ d.weights Tryz.prog 22) ∧ o.spot ≤ 9223372036854775807 := fun i hin => by
      obtain ⟨cs', h1, h2⟩ := hi i (by simp at hmm; omega)
      rw [hC] at h1
      obtain ⟨_, hlen, hat⟩ := World.cells?_some h1
      obtain ⟨o, sv, rfl, hs, hz, hsp⟩ := trod_op2 h2
      refine ⟨o, ⟨sv, fun k x hk => ?_, hs⟩, fun t ht => by rw [(Prod.mk.inj hx).1]; exact mem_slice (d := D i) Tryz.underlying22 (hz t ht) (List.mem_map.2 ⟨i, List.mem_range.2 hin, rfl⟩), hsp⟩
      have hk5 : k < 5 := by
        by_cases e : k < 5
        · exact e
        · rw [List.getElem?_eq_none (by simp; omega)] at hk; cases hk
      rw [hat k hk5]
      exact hk
    obtain ⟨l, rfl, hlc⟩ := list_of n key
    refine ⟨some a, l, c, rfl, fun k hk => ?_, fun o ho => ?_, fun o ho => ?_⟩
    · obtain ⟨⟨sv, h0, hs⟩, _⟩ := hlc k hk
      have hsp : a.spot = Option.none := by
        obtain ⟨⟨sv', g0, _⟩, _⟩ := hlc 0 (by omega)
        have g0 := g0 0 _ rfl
        rw [Nat.zero_mul, show (a.add 0).add 0 = a from rfl] at g0
        exact spot_none g0
      obtain ⟨b, off, spt⟩ := a
      dsimp only at hsp
      subst hsp
      have e : ∀ i x, [Value.int .i64 l[k].kind, sv, .int .i64 l[k].spot, .int .i64 l[k].writes, .int .i64 l[k].bytes][i]? = some x → W.cell? ⟨b, off + k * 5 + i, Option.none⟩ = some x := fun i x hi => by
        have := h0 i x hi
        rwa [Addr.add_lit, Addr.add_lit] at this
      exact ⟨b, off, sv, rfl, e 0 _ rfl, e 1 _ rfl, e 2 _ rfl, e 3 _ rfl, e 4 _ rfl, hs⟩
    · obtain ⟨j, hj, rfl⟩ := List.getElem_of_mem ho
      exact (hlc j hj).2.1
    · obtain ⟨j, hj, rfl⟩ := List.getElem_of_mem ho
      exact (hlc j hj).2.2
end
end Go.Proofs.YtihoomlaggihlaaGreatDoor
