/- The last step of a law's row whatever its arguments; a slice of periods opened. Under no condition. -/
import Derived.Test.YtjebbmnjegndkaaGreatDoorL
import Derived.Test.YtjebbmnjegndkaaGreatDoorE
import Derived.Carry
import Derived.Deep.Slices
import Derived.Lib.SmallJoins
namespace Go.Proofs.YtjebbmnjegndkaaGreatDoor
open Go.ChangeShapes Go.WideShapes Go.ChangeAt Go.RowKit Go.Deep

section
variable {H : Type} {enc : TypeId × Value → H}
/-- arguments read as before where nothing that lay there has turned -/
theorem args_stay {P : Program} (hl : laidOutB P = true) {W W' : World} (hb : Below W.heap.size W W') : ∀ {ts : List TypeId} {vs : List Value} {ds : List (DataW H)} {ps : List MemPlace},
    (∀ t ∈ ts, P.readableRec t = true ∧ t < P.types.size) → DataW.TrodAll enc P W 0 (fun _ => true) true ts vs ds ps → (∀ x ∈ ps, x.block < W.heap.size) → DataW.TrodAll enc P W' 0 (fun b => decide (b < W.heap.size)) true ts vs ds ps
  | [], vs, ds, ps, _, h, _ => by
    obtain ⟨rfl, rfl, rfl⟩ := trodAll_nil h
    exact trodAll_mk0
  | t :: ts, vs, ds, ps, hr, h, hlt => by
    obtain ⟨v, vs', d, ds', p, q, rfl, rfl, rfl, h1, h2⟩ := trodAll_cons h
    have ht := hr t (List.mem_cons_self ..)
    exact trodAll_cons_mk (Below.trod hl ht.1 ht.2 h1 hb (fun x hx => hlt x (List.mem_append.2 (Or.inl hx))))
      (args_stay hl hb (fun t' ht' => hr t' (List.mem_cons_of_mem _ ht')) h2 (fun x hx => hlt x (List.mem_append.2 (Or.inr hx))))

theorem laidOut : laidOutB Tryz.prog = true := by kernel_rfl
/-- a law's last step: it has returned true, and all that lay in memory is as it was -/
theorem law_end {f : Func} {s : ChangeSpec} {W W' : World} {args : Array Value} {ds : List (DataW H)} {before : List MemPlace}
    (hW : DataW.Whole enc Tryz.prog f.params.toList s.vars false W args.toList ds [] before) (hvs : s.vars = []) (hR : f.resultTypes = #[4])
    (hl : laidOutB Tryz.prog = true) (hr : ∀ t ∈ f.params.toList, Tryz.prog.readableRec t = true ∧ t < Tryz.prog.types.size)
    (hfn : s.fn H (ds ++ []) = { results := [.lit (.bool true)], args := ds })
    (hb : Below W.heap.size W W') : s.post enc Tryz.prog f false true false false W args (.bool true) W' := by
  have hlt : ∀ p ∈ before, p.block < W.heap.size := fun p hp => hW.lt p hp
  have hW' := hW
  obtain ⟨p, q, hA, hV, rfl, hz, hn⟩ := hW
  rw [hvs] at hV
  obtain ⟨_, rfl⟩ := trodVars_none hV
  refine ⟨ds, [], p ++ [], [], p, [], hW', ?_, ?_, ?_, World.keptBut_mono (fun x hx => ⟨hx, Or.inr (by simpa using hx)⟩) (hb.frame (· ∈ p ++ [])), fun h => by cases h⟩
  · rw [hfn, hR]; exact trodAll_mk1 (shut_bool Tryz.underlying4 _)
  · rw [hfn]; exact args_stay hl hb hr hA (fun x hx => hlt x (by simpa using hx))
  · rw [hfn, hvs]; rfl
set_option maxRecDepth 100000 in
/-- a slice of periods -/
theorem open_pers {W : World} {base : Nat} {r : Reach} {b0 : Nat} {v : Value} {d : DataW H} {p : List MemPlace} (hv : Value.okWide Tryz.prog W r b0 34 v) (h : DataW.Trod enc Tryz.prog W base (fun _ => true) true 34 v d p) :
    ∃ A l c, v = .slice A (List.length l) c ∧ Rd W A l := by
  obtain ⟨a0, n, c, rfl⟩ := okWide_slice Tryz.underlying34 hv
  obtain ⟨fuel, hf⟩ := h
  rcases open_slice Tryz.underlying34 hf with ⟨hcs, _⟩ | ⟨a, len, cap, m, fl, D, Pl, hcs, hb, hl, hm, hmm, hx, hi⟩
  · simp [Value.cells] at hcs
    obtain ⟨rfl, rfl, rfl⟩ := hcs
    exact ⟨none, [], 0, rfl, Or.inl rfl⟩
  · simp [Value.cells] at hcs
    obtain ⟨rfl, rfl, rfl⟩ := hcs
    have hC : Tryz.prog.cellsOf 38 = 2 := by kernel_rfl
    have key : ∀ i, i < n → ∃ f u : Int, W.cell? (a.add (i * 2)) = some (.int .i64 f) ∧ W.cell? ((a.add (i * 2)).add 1) = some (.int .i64 u) := fun i hin => by
      obtain ⟨cs', h1, h2⟩ := hi i (by simp at hmm; omega)
      rw [hC] at h1
      obtain ⟨_, hlen, hat⟩ := World.cells?_some h1
      obtain ⟨y0, y1, fl', _, _, t0, t1⟩ := trod_struct2 Tryz.underlying38 h2
      match cs', hlen with
      | [c0, c1], _ =>
        have k3 : Tryz.prog.cellsOf 3 = 1 := by kernel_rfl
        rw [k3] at t0 t1
        obtain ⟨f, e0, _, _⟩ := DataW.trod_int Tryz.underlying3 t0
        obtain ⟨u, e1, _, _⟩ := DataW.trod_int Tryz.underlying3 t1
        simp at e0 e1
        subst e0 e1
        refine ⟨f, u, ?_, ?_⟩
        · have := hat 0 (by omega); simpa [Addr.add] using this
        · have := hat 1 (by omega); simpa using this
    rcases Nat.eq_zero_or_pos n with rfl | hpos
    · exact ⟨some a, [], c, rfl, Or.inl rfl⟩
    · obtain ⟨f0, _, h00, _⟩ := key 0 hpos
      have ha : a.spot = none := by
        rw [Nat.zero_mul] at h00
        simp only [Addr.add, if_pos] at h00
        unfold World.cell? at h00
        split at h00
        · cases hs : a.spot with
          | none => rfl
          | some x => rw [hs] at h00; simp at h00
        · cases h00
      obtain ⟨b, off, sp⟩ := a
      dsimp only at ha
      subst ha
      have hbl : b < W.heap.size := by
        have := World.block_lt_of_cell? _ _ h00
        simpa [Addr.add] using this
      have hl2 : ∀ k, k ≤ n → ∃ l : List (Int × Int), l.length = k ∧ ∀ j (h : j < l.length), W.cell? ⟨b, off + j * 2, none⟩ = some (.int .i64 l[j].1) ∧ W.cell? ⟨b, off + j * 2 + 1, none⟩ = some (.int .i64 l[j].2) := by
        intro k
        induction k with
        | zero => exact fun _ => ⟨[], rfl, fun j h => by simp at h⟩
        | succ k ih =>
          intro hk
          obtain ⟨l, hll, hlc⟩ := ih (by omega)
          obtain ⟨f, u, e0, e1⟩ := key k (by omega)
          rw [Addr.add_lit] at e0
          rw [Addr.add_lit, Addr.add_lit] at e1
          refine ⟨l ++ [(f, u)], by simp [hll], fun j hj => ?_⟩
          by_cases hjk : j < l.length
          · rw [List.getElem_append_left hjk]; exact hlc j hjk
          · have ej : j = l.length := by simp at hj; omega
            subst ej
            rw [List.getElem_append_right (Nat.le_refl _)]
            simp only [Nat.sub_self, List.getElem_cons_zero]
            rw [hll]
            exact ⟨e0, e1⟩
      obtain ⟨l, hll, hlc⟩ := hl2 n (Nat.le_refl _)
      subst hll
      exact ⟨some ⟨b, off, none⟩, l, c, rfl, Or.inr ⟨b, off, rfl, hbl, hlc⟩⟩
end
end Go.Proofs.YtjebbmnjegndkaaGreatDoor
