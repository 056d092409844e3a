/- From the rows' condition to the tables and variables in memory; orders read out of arguments; the last step of a law's row. Under no condition. -/
import Derived.Test.YtngbkdnkpolbfaaDoorFWB
import Derived.ProofKit
import Derived.LaidMore
import Derived.OpenShut
import Derived.Stop.Joined
import Derived.Stop.LaidErr
import Derived.Lib.LaidTab
import Derived.HandedShaped
import Derived.Lay
import Derived.Carry
import Derived.Deep.Slices
import Derived.Lib.SmallJoins
namespace Go.Proofs.YtngbkdnkpolbfaaDoor
open Go.ChangeShapes Go.WideShapes Go.ChangeAt Go.RowKit Go.Deep

theorem own : ownKnob Tryd.prog.godebug = none := by kernel_rfl
/-- the eight variables that the row lists -/
abbrev laid8 : List (String × DataW Unit) := [("math/bits.deBruijn32tab", Rows.laid_math_bits_deBruijn32tab), ("math/bits.deBruijn64tab", Rows.laid_math_bits_deBruijn64tab), ("internal/strconv.uint64pow10", Rows.laid_internal_strconv_uint64pow10), ("unicode/utf8.acceptRanges", Rows.laid_unicode_utf8_acceptRanges), ("strconv.ErrRange", Rows.laid_strconv_ErrRange), ("strconv.ErrSyntax", Rows.laid_strconv_ErrSyntax), ("gazetteer/date.lengths", Rows.laid_gazetteer_date_lengths), ("unicode/utf8.first", Rows.laid_unicode_utf8_first)]

theorem starred : "*" ++ "errors.errorString" = "*errors.errorString" := by decide
theorem errRow (u : TypeId) (h : Tryd.prog.typeName? 3 u = some "*errors.errorString") : u = 129 :=
  typeName_ptr_named (nm := "errors.errorString") (by rw [starred]; kernel_rfl) (by kernel_rfl) (by decide) u (by rw [starred]; exact h)

theorem laid_of8 {W : World} (h : laidMetH Tryd.prog laid8 W) (hsh : W.ShapedOpen Tryd.prog) : LaidT W := by
  rw [MakeChecks.laidMetH_plain _ _ _ (by kernel_rfl)] at h
  have h2 := h.tail
  have h3 := h2.tail
  have h5 := h3.tail.tail
  have h6 := h5.tail
  have h7 := h6.tail
  have t2 : Lib.TabIs Tryd.prog W "internal/strconv.uint64pow10" .u64 Lib.pow10Tab := Lib.tabIs_of_head (g := 4) (t := 118) (e := 105) (n := 20) (by kernel_rfl) (by kernel_rfl) Tryd.underlying118 Tryd.underlying105 (by kernel_rfl) (by kernel_rfl) (rest := _) h3
  have t3 : Lib.TabIs Tryd.prog W "gazetteer/date.lengths" .i64 [31, 28, 31, 30, 31, 30, 31, 31, 30, 31, 30, 31] := Lib.tabIs_of_head (g := 0) (t := 103) (e := 3) (n := 12) (by kernel_rfl) (by kernel_rfl) Tryd.underlying103 Tryd.underlying3 (by kernel_rfl) (by kernel_rfl) (rest := _) h7
  obtain ⟨a1, s1, hv1, -, -, -⟩ := laid_sentinel (g := 3) (ti := 75) (te := 131) h5 (by kernel_rfl) (by kernel_rfl) Tryd.underlying75 errRow Tryd.underlying129 Tryd.underlying131 rfl rfl Tryd.underlying9 (by kernel_rfl) (by kernel_rfl)
  obtain ⟨a2, s2, hv2, -, -, -⟩ := laid_sentinel (g := 2) (ti := 75) (te := 131) h6 (by kernel_rfl) (by kernel_rfl) Tryd.underlying75 errRow Tryd.underlying129 Tryd.underlying131 rfl rfl Tryd.underlying9 (by kernel_rfl) (by kernel_rfl)
  obtain ⟨ps, ⟨g', t', cs, fuel, p, q, hg', ht', hvar, hd, _, _⟩, _⟩ := h2
  have hg8 : Tryd.prog.globalNamed "math/bits.deBruijn64tab" = some 8 := by kernel_rfl
  obtain rfl := Option.some.inj (hg8.symm.trans hg')
  refine ⟨⟨fun k hk => ?_, t2, ?_⟩, ⟨_, by have h0 := World.var?_cell (g := 2) (by kernel_rfl) hv2 0; simpa using h0, Or.inr ⟨_, _, rfl⟩⟩, ⟨_, by have h0 := World.var?_cell (g := 3) (by kernel_rfl) hv1 0; simpa using h0, Or.inr ⟨_, _, rfl⟩⟩,
    cell_of_shapedOpen_int (zero := #[.int .i64 0]) (t := 3) hsh (of_decide_eq_true (by kernel_rfl)) (by kernel_rfl) rfl (by kernel_rfl) (by kernel_rfl) Tryd.underlying3⟩
  · have := t3.cell (g := 0) (by kernel_rfl) k (by simpa using hk)
    rw [this]; rfl
  · unfold World.var? at hvar
    rw [hg8] at hvar
    rcases Nat.lt_or_ge 8 W.heap.size with hlt | hge
    · omega
    · simp only [Option.bind_some] at hvar
      rw [Array.getElem?_eq_none hge] at hvar; cases hvar

set_option maxRecDepth 100000 in
theorem door_met8 (os : Os) (args : Array Value) : laidMetH Tryd.prog laid8 ((World.laidAll Tryd.prog os laid8).forCall (fun _ _ => 0) ⟨#[], args, []⟩).memory := by
  rw [MakeChecks.laidMetH_plain _ _ _ (by kernel_rfl)]; exact laidMet_laidAll _ (by kernel_rfl) (by kernel_rfl)
section
variable {H : Type} {enc : TypeId × Value → H}
/-- arguments read as before where nothing that lay there has turned -/
theorem args_stay {P : Program} (hl : laidOutB P = true) {W W' : World} (hb : Below W.heap.size W W') : ∀ {ts : List TypeId} {vs : List Value} {ds : List (DataW H)} {ps : List MemPlace},
    (∀ t ∈ ts, P.readableRec t = true ∧ t < P.types.size) → DataW.TrodAll enc P W 0 (fun _ => true) true ts vs ds ps → (∀ x ∈ ps, x.block < W.heap.size) → DataW.TrodAll enc P W' 0 (fun b => decide (b < W.heap.size)) true ts vs ds ps
  | [], vs, ds, ps, _, h, _ => by
    obtain ⟨rfl, rfl, rfl⟩ := trodAll_nil h
    exact trodAll_mk0
  | t :: ts, vs, ds, ps, hr, h, hlt => by
    obtain ⟨v, vs', d, ds', p, q, rfl, rfl, rfl, h1, h2⟩ := trodAll_cons h
    have ht := hr t (List.mem_cons_self ..)
    exact trodAll_cons_mk (Below.trod hl ht.1 ht.2 h1 hb (fun x hx => hlt x (List.mem_append.2 (Or.inl hx))))
      (args_stay hl hb (fun t' ht' => hr t' (List.mem_cons_of_mem _ ht')) h2 (fun x hx => hlt x (List.mem_append.2 (Or.inr hx))))

theorem laidOut : laidOutB Tryd.prog = true := by kernel_rfl
/-- a law's last step: it has returned true, and all that lay in memory is as it was -/
theorem law_end {f : Func} {s : ChangeSpec} {W W' : World} {args : Array Value} {ds : List (DataW H)} {before : List MemPlace}
    (hW : DataW.Whole enc Tryd.prog f.params.toList s.vars false W args.toList ds [] before) (hvs : s.vars = []) (hR : f.resultTypes = #[4])
    (hl : laidOutB Tryd.prog = true) (hr : ∀ t ∈ f.params.toList, Tryd.prog.readableRec t = true ∧ t < Tryd.prog.types.size)
    (hfn : s.fn H (ds ++ []) = { results := [.lit (.bool true)], args := ds })
    (hb : Below W.heap.size W W') : s.post enc Tryd.prog f false true false false W args (.bool true) W' := by
  have hlt : ∀ p ∈ before, p.block < W.heap.size := fun p hp => hW.lt p hp
  have hW' := hW
  obtain ⟨p, q, hA, hV, rfl, hz, hn⟩ := hW
  rw [hvs] at hV
  obtain ⟨_, rfl⟩ := trodVars_none hV
  refine ⟨ds, [], p ++ [], [], p, [], hW', ?_, ?_, ?_, World.keptBut_mono (fun x hx => ⟨hx, Or.inr (by simpa using hx)⟩) (hb.frame (· ∈ p ++ [])), fun h => by cases h⟩
  · rw [hfn, hR]; exact trodAll_mk1 (shut_bool Tryd.underlying4 _)
  · rw [hfn]; exact args_stay hl hb hr hA (fun x hx => hlt x (by simpa using hx))
  · rw [hfn, hvs]; rfl
set_option maxRecDepth 100000 in
/-- an order's cells -/
theorem trod_ord {w : World} {base fuel : Nat} {sp : Nat → Bool} {cs : List Value} {x : DataW H × List MemPlace} (h : DataW.trod enc Tryd.prog w base sp true fuel 26 cs = some x) :
    ∃ o : Ord, cs = [.string o.id, .string o.pn, .string o.fr, .string o.to, .int .i64 o.pf, .int .i64 o.pu] := by
  obtain ⟨xs, n, _, _, hl, hlen, hf⟩ := DataW.trod_struct Tryd.underlying26 h
  have hC : Tryd.prog.cellsOf 26 = 6 := by kernel_rfl
  have hC24 : Tryd.prog.cellsOf 24 = 2 := by kernel_rfl
  have hC9 : Tryd.prog.cellsOf 9 = 1 := by kernel_rfl
  have hC3 : Tryd.prog.cellsOf 3 = 1 := by kernel_rfl
  rw [hC] at hl
  match cs, hl with
  | [c0, c1, c2, c3, c4, c5], _ =>
    match xs, hlen with
    | [y0, y1, y2, y3, y4], _ =>
      have t0 : DataW.trod enc Tryd.prog w base sp true n 9 (([c0, c1, c2, c3, c4, c5].drop 0).take (Tryd.prog.cellsOf 9)) = some y0 := hf 0 _ rfl
      have t1 : DataW.trod enc Tryd.prog w base sp true n 9 (([c0, c1, c2, c3, c4, c5].drop 1).take (Tryd.prog.cellsOf 9)) = some y1 := hf 1 _ rfl
      have t2 : DataW.trod enc Tryd.prog w base sp true n 9 (([c0, c1, c2, c3, c4, c5].drop 2).take (Tryd.prog.cellsOf 9)) = some y2 := hf 2 _ rfl
      have t3 : DataW.trod enc Tryd.prog w base sp true n 9 (([c0, c1, c2, c3, c4, c5].drop 3).take (Tryd.prog.cellsOf 9)) = some y3 := hf 3 _ rfl
      have t4 : DataW.trod enc Tryd.prog w base sp true n 24 (([c0, c1, c2, c3, c4, c5].drop 4).take (Tryd.prog.cellsOf 24)) = some y4 := hf 4 _ rfl
      simp only [hC9, hC24, List.drop_zero, List.drop_succ_cons, List.take_succ_cons, List.take_zero] at t0 t1 t2 t3 t4
      obtain ⟨a0, e0, _⟩ := DataW.trod_string Tryd.underlying9 t0
      obtain ⟨a1, e1, _⟩ := DataW.trod_string Tryd.underlying9 t1
      obtain ⟨a2, e2, _⟩ := DataW.trod_string Tryd.underlying9 t2
      obtain ⟨a3, e3, _⟩ := DataW.trod_string Tryd.underlying9 t3
      obtain ⟨z0, z1, n', _, _, u0, u1⟩ := trod_struct2 Tryd.underlying24 t4
      simp only [hC3, List.drop_zero, List.drop_succ_cons, List.take_succ_cons, List.take_zero] at u0 u1
      obtain ⟨f, e4, _, _⟩ := DataW.trod_int Tryd.underlying3 u0
      obtain ⟨u, e5, _, _⟩ := DataW.trod_int Tryd.underlying3 u1
      simp at e0 e1 e2 e3 e4 e5
      subst e0 e1 e2 e3 e4 e5
      exact ⟨⟨a0, a1, a2, a3, f, u⟩, rfl⟩
set_option maxRecDepth 100000 in
theorem open_ord {W : World} {base : Nat} {r : Reach} {b0 : Nat} {v : Value} {d : DataW H} {p : List MemPlace} (hv : Value.okWide Tryd.prog W r b0 26 v) (h : DataW.Trod enc Tryd.prog W base (fun _ => true) true 26 v d p) :
    ∃ o : Ord, v = .agg (encO o) := by
  obtain ⟨cs, rfl, _⟩ := okWide_struct Tryd.underlying26 hv
  obtain ⟨fuel, hf⟩ := h
  obtain ⟨o, ho⟩ := trod_ord hf
  refine ⟨o, ?_⟩
  simp [Value.cells] at ho
  obtain ⟨l⟩ := cs
  simp at ho
  subst ho
  rfl
set_option maxRecDepth 100000 in
/-- a slice of orders -/
theorem open_ords {W : World} {base : Nat} {r : Reach} {b0 : Nat} {v : Value} {d : DataW H} {p : List MemPlace} (hv : Value.okWide Tryd.prog W r b0 22 v) (h : DataW.Trod enc Tryd.prog W base (fun _ => true) true 22 v d p) :
    ∃ A l c, v = .slice A (List.length l) c ∧ (List.length l) ≤ c ∧ (A = Option.none → c = 0) ∧ RdO W A l := by
  obtain ⟨a0, n, c, rfl⟩ := okWide_slice Tryd.underlying22 hv
  obtain ⟨fuel, hf⟩ := h
  rcases open_slice Tryd.underlying22 hf with ⟨hcs, _⟩ | ⟨a, len, cap, m, fl, D, Pl, hcs, hb, hl, hm, hmm, hx, hi⟩
  · simp [Value.cells] at hcs
    obtain ⟨rfl, rfl, rfl⟩ := hcs
    exact ⟨Option.none, [], 0, rfl, by simp, fun _ => rfl, Or.inl rfl⟩
  · simp [Value.cells] at hcs
    obtain ⟨rfl, rfl, rfl⟩ := hcs
    have hC : Tryd.prog.cellsOf 26 = 6 := by kernel_rfl
    have key : ∀ i, i < n → ∃ o : Ord, ∀ k x, (encO o).toList[k]? = some x → W.cell? ((a.add (i * 6)).add k) = some x := fun i hin => by
      obtain ⟨cs', h1, h2⟩ := hi i (by simp at hmm; omega)
      rw [hC] at h1
      obtain ⟨_, hlen, hat⟩ := World.cells?_some h1
      obtain ⟨o, rfl⟩ := trod_ord h2
      refine ⟨o, fun k x hk => ?_⟩
      have hk6 : k < 6 := by
        by_cases e : k < 6
        · exact e
        · rw [List.getElem?_eq_none (by simp; omega)] at hk; cases hk
      rw [hat k hk6]
      simpa [encO] using hk
    rcases Nat.eq_zero_or_pos n with rfl | hpos
    · exact ⟨some a, [], c, rfl, by simp, (fun h => by cases h), Or.inl rfl⟩
    · obtain ⟨o0, h00⟩ := key 0 hpos
      have h00 := h00 0 (.string o0.id) rfl
      have ha : a.spot = Option.none := by
        rw [Nat.zero_mul] at h00
        simp only [Addr.add, if_pos] at h00
        unfold World.cell? at h00
        split at h00
        · cases hs : a.spot with
          | none => rfl
          | some x => rw [hs] at h00; simp at h00
        · cases h00
      obtain ⟨b, off, sp⟩ := a
      dsimp only at ha
      subst ha
      have hbl : b < W.heap.size := by
        have := World.block_lt_of_cell? _ _ h00
        simpa [Addr.add] using this
      have hl2 : ∀ k, k ≤ n → ∃ l : List Ord, l.length = k ∧ ∀ j (h : j < l.length), At6 W b (off + j * 6) l[j] := by
        intro k
        induction k with
        | zero => exact fun _ => ⟨[], rfl, fun j h => by simp at h⟩
        | succ k ih =>
          intro hk
          obtain ⟨l, hll, hlc⟩ := ih (by omega)
          obtain ⟨o, ho⟩ := key k (by omega)
          have e : ∀ i x, (encO o).toList[i]? = some x → W.cell? ⟨b, off + k * 6 + i, Option.none⟩ = some x := fun i x hi => by
            have := ho i x hi
            rwa [Addr.add_lit, Addr.add_lit] at this
          refine ⟨l ++ [o], by simp [hll], fun j hj => ?_⟩
          by_cases hjk : j < l.length
          · rw [List.getElem_append_left hjk]; exact hlc j hjk
          · have ej : j = l.length := by simp at hj; omega
            subst ej
            rw [List.getElem_append_right (Nat.le_refl _)]
            simp only [Nat.sub_self, List.getElem_cons_zero]
            rw [hll]
            exact ⟨e 0 _ rfl, e 1 _ rfl, e 2 _ rfl, e 3 _ rfl, e 4 _ rfl, e 5 _ rfl⟩
      obtain ⟨l, hll, hlc⟩ := hl2 n (Nat.le_refl _)
      subst hll
      exact ⟨some ⟨b, off, Option.none⟩, l, c, rfl, hl, (fun h => by cases h), Or.inr ⟨b, off, rfl, hbl, hlc⟩⟩
end
end Go.Proofs.YtngbkdnkpolbfaaDoor
