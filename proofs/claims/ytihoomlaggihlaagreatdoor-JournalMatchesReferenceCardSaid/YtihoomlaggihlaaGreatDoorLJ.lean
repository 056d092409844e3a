/- The contracts for a disk that is off, and for one with pending writes; a write. Under the condition that the tables lie in memory as the program lays them. -/
import Derived.Test.YtihoomlaggihlaaGreatDoorLI
namespace Go.Proofs.YtihoomlaggihlaaGreatDoor
open Go.RowKit

theorem ds_write (w0 w : World) (F : Nat → Prop) (d n : Nat) (S : List (List UInt8)) (p : List (Nat × List UInt8)) (i : Nat) (t : List UInt8) (h : DS w0 F d n ⟨S, p, false, none⟩ w) (hi : i < n) (ht : t.length = 64) (hm : p.length ≤ 10000) :
    Calls Tryz.prog 76 #[.pointer (some ⟨d, 0, none⟩), .int .i64 i, .string ⟨t.toArray⟩] w fun e w' => e = .returned (.int .i64 0) ∧ ∃ F', DS w0 F' d n ⟨S, p ++ [(i, t)], false, none⟩ w' ∧ Stp F w F' w' := by
  refine (write_any w F d n _ i t h.dat hi ht hm).mono ?_
  rintro e w' ⟨rfl, F', g1, g2⟩
  exact ⟨rfl, F', h.step g1 g2, g2⟩
theorem runs_off (S : List (List UInt8)) (al : Option (Int × Int × Int)) (c : Nat) (ps : List (List UInt8)) : PD.runs ⟨S, [], true, al⟩ (appSegs c ps) = (⟨S, [], true, al⟩, 21) := by
  have h : ∀ s rest, PD.runs ⟨S, [], true, al⟩ (s :: rest) = (⟨S, [], true, al⟩, 21) := by
    intro s rest
    rw [PD.runs]
    have : PD.writes ⟨S, [], true, al⟩ s = (⟨S, [], true, al⟩, 21) := by
      cases s with
      | nil => simp [PD.writes, PD.sync]
      | cons q s => simp [PD.writes, PD.write]
    rw [this]
    simp
  unfold appSegs
  exact h _ _
/-- how an Append ends while the disk is off -/
def AppO (w0 : World) (F G : Nat → Prop) (d jb n c : Nat) (S recs : List (List UInt8)) (k : Nat) (w : World) (e : Ending) (w' : World) : Prop :=
  ∃ F' G', Stp (fun k => F k ∨ G k) w (fun k => F' k ∨ G' k) w' ∧ (∀ k, F' k → ¬ G' k) ∧ DS w0 F' d n ⟨S, [], true, none⟩ w' ∧
    ((n - 2 - c < k ∧ e = .returned (.int .i64 22) ∧ JAt w' G' jb d n c recs false) ∨ (k ≤ n - 2 - c ∧ e = .returned (.int .i64 21) ∧ JAt w' G' jb d n c recs true))
theorem DS.stp2 {w0 w w' : World} {F F' G G' : Nat → Prop} {d n : Nat} {D E : PD} (h : DS w0 F d n D w) (g : DAt w' F' d n E) (hs : Stp (fun k => F k ∨ G k) w (fun k => F' k ∨ G' k) w') (hG : ∀ k, G k → w0.heap.size ≤ k) : DS w0 F' d n E w' :=
  ⟨g, h.bel.trans (hs.out.below h.bel.size (fun x e => e.elim (h.ge x) (hG x))), fun x hx => by
    rcases hs.sub x (Or.inl hx) with y | y
    · exact y.elim (h.ge x) (hG x)
    · exact Nat.le_trans h.bel.size y, h.lay0⟩
theorem js_off (w0 w : World) (F G : Nat → Prop) (d jb n c : Nat) (S recs : List (List UInt8)) (xs : List (List UInt8)) (v : Value) (h : DS w0 F d n ⟨S, [], true, none⟩ w) (hj : JAt w G jb d n c recs false) (hFG : ∀ k, F k → ¬ G k) (hge : ∀ k, G k → w0.heap.size ≤ k) (hn3 : 3 ≤ n) (hv : SR w (fun k => F k ∨ G k) v xs) (hx : xs ≠ []) (hlo : longB xs = false) (hm : xs.length ≤ 50000) (hl : ∀ t ∈ xs, t.length ≤ 10000000) (ht : (textP xs).length ≤ 10000000) (hrl : recs.length + xs.length ≤ 100000) :
    Calls Tryz.prog 13 #[.pointer (some ⟨jb, 0, none⟩), v] w (AppO w0 F G d jb n c S recs (pieces (textP xs)).length w) := by
  refine (append_any w F G jb d n c ⟨S, [], true, none⟩ recs xs false v h.dat hj hFG h.lay hv hm hl ht hrl (by simp) h.f6 hn3).mono ?_
  rintro e w' (⟨hf, _⟩ | ⟨_, hlo', _⟩ | ⟨_, _, hro, rfl, hb⟩ | ⟨_, hx', _⟩ | ⟨_, _, _, hroom, F', G', g1, g2, g3, g4⟩)
  · cases hf
  · rw [hlo] at hlo'; cases hlo'
  · exact ⟨F, G, Stp.below hb, hFG, h.below hb, Or.inl ⟨hro, rfl, hj.below hb⟩⟩
  · exact absurd hx' hx
  · rw [runs_off] at g1 g4
    rcases g4 with ⟨g5, _⟩ | ⟨_, rfl, g5⟩
    · cases g5
    · exact ⟨F', G', g2, g3, h.stp2 g1 g2 hge, Or.inr ⟨hroom, rfl, g5⟩⟩
/-- writes on a disk that never fails -/
theorem runs_pend (n : Nat) (S : List (List UInt8)) (p : List (Nat × List UInt8)) (segs : List (List (Nat × List UInt8))) :
    ∃ S' p', PD.runs ⟨S, p, false, none⟩ segs = (⟨S', p', false, none⟩, 0) ∧ settleS S' p' = settleS (settleS S p) segs.flatten ∧ p'.length ≤ p.length := by
  cases segs with
  | nil => exact ⟨S, p, rfl, rfl, Nat.le_refl _⟩
  | cons s segs =>
    rcases writes_end n S s p none (by simp) with ⟨al, e, _, ha⟩ | ⟨_, _, _, hne⟩
    · obtain rfl := ha rfl
      rcases runs_end n segs (settleS S (p ++ s)) none (by simp) with ⟨al, e2, _, ha⟩ | ⟨_, _, _, hne⟩
      · obtain rfl := ha rfl
        refine ⟨settleS (settleS S (p ++ s)) segs.flatten, [], ?_, ?_, Nat.zero_le _⟩
        · rw [PD.runs, e]
          simpa using e2
        · rw [settle_nil, List.flatten_cons, settle_app, settle_app]
      · exact absurd rfl hne
    · exact absurd rfl hne
/-- a disk that never fails, with pending writes, and its journal -/
structure VS (w0 : World) (F G : Nat → Prop) (d jb n c : Nat) (S : List (List UInt8)) (p : List (Nat × List UInt8)) (recs : List (List UInt8)) (w : World) : Prop where
  ds : DS w0 F d n ⟨S, p, false, none⟩ w
  jat : JAt w G jb d n c recs false
  sep : ∀ k, F k → ¬ G k
  gge : ∀ k, G k → w0.heap.size ≤ k
  good : Good n (settleS S p) c recs
  few : p.length ≤ 1000
theorem VS.below {w0 w w' : World} {F G : Nat → Prop} {d jb n c : Nat} {S : List (List UInt8)} {p : List (Nat × List UInt8)} {recs : List (List UInt8)} (h : VS w0 F G d jb n c S p recs w) (hb : Below w.heap.size w w') : VS w0 F G d jb n c S p recs w' :=
  ⟨h.ds.below hb, h.jat.below hb, h.sep, h.gge, h.good, h.few⟩
theorem VS.lt {w0 w : World} {F G : Nat → Prop} {d jb n c : Nat} {S : List (List UInt8)} {p : List (Nat × List UInt8)} {recs : List (List UInt8)} (h : VS w0 F G d jb n c S p recs w) : ∀ x, F x ∨ G x → x < w.heap.size := fun x e => e.elim (h.ds.dat.lt x) (h.jat.lt x)
/-- how an Open on it ends -/
def OpenV (w0 : World) (F : Nat → Prop) (d n : Nat) (S : List (List UInt8)) (p : List (Nat × List UInt8)) (w : World) (e : Ending) (w' : World) : Prop :=
  ((¬ ∃ c recs, Opn n (settleS S p) c recs) ∧ e = .returned (.tuple #[.pointer none, .slice none 0 0, .int .i64 20]) ∧ Below w.heap.size w w' ∧ DS w0 F d n ⟨S, p, false, none⟩ w') ∨
  (∃ c recs, Opn n (settleS S p) c recs ∧ ∃ jb gv F' G S' p', e = .returned (.tuple #[.pointer (some ⟨jb, 0, none⟩), gv, .int .i64 0]) ∧ VS w0 F' G d jb n c S' p' recs w' ∧ Stp F w F' w' ∧ (∀ k, G k → w.heap.size ≤ k) ∧ RS w0 (fun k => F' k ∨ G k) gv recs w')
theorem vs_open (w0 w : World) (F : Nat → Prop) (d n : Nat) (S : List (List UInt8)) (p : List (Nat × List UInt8)) (h : DS w0 F d n ⟨S, p, false, none⟩ w) (hn3 : 3 ≤ n) (hp : p.length ≤ 1000) :
    Calls Tryz.prog 7 #[.pointer (some ⟨d, 0, none⟩)] w (OpenV w0 F d n S p w) := by
  have hn4 := h.dat.n4
  refine (open_main w F d n ⟨S, p, false, none⟩ h.dat rfl hp hn3 h.f6 h.lay).mono ?_
  have hv : view ⟨S, p, false, none⟩ = settleS S p := rfl
  rintro e w' (⟨h1, rfl, h2⟩ | ⟨c, recs, h1, h2, rfl, F', h3, h4⟩ | ⟨c, recs, h1, h2, jb, gv, F', G, rfl, h3, h4, h5, h6, h7, h8, h9⟩)
  · rw [hv] at h1
    exact Or.inl ⟨h1, rfl, h2, h.below h2⟩
  · rw [hv] at h1 h2 h3
    obtain ⟨S', p', e1, _, _⟩ := runs_pend n S p (mend (settleS S p) c)
    rw [e1] at h2
    cases h2
  · rw [hv] at h1 h2 h3
    obtain ⟨S', p', e1, e2, e3⟩ := runs_pend n S p (mend (settleS S p) c)
    rw [e1] at h3
    have hz := h.bel.size
    have hg := mend_done h1 (h.dat.vd.sec.settle h.dat.vd.whole.le) hn3 (by omega)
    rw [← e2] at hg
    exact Or.inr ⟨c, recs, h1, jb, gv, F', G, S', p', rfl, ⟨h.step h3 h4, h5, h7, fun k hk => Nat.le_trans hz (h6 k hk), hg, by omega⟩, h4, h6, own_from h8 hz, fun x hx e => e.elim (h9 x hx).1 (h9 x hx).2⟩
/-- how an Append on it ends -/
def AppV (w0 : World) (F G : Nat → Prop) (d jb n c : Nat) (S : List (List UInt8)) (p : List (Nat × List UInt8)) (recs xs : List (List UInt8)) (w : World) (e : Ending) (w' : World) : Prop :=
  ∃ F' G', Stp (fun k => F k ∨ G k) w (fun k => F' k ∨ G' k) w' ∧
    ((n - 2 - c < (pieces (textP xs)).length ∧ e = .returned (.int .i64 22) ∧ VS w0 F' G' d jb n c S p recs w') ∨
     ((pieces (textP xs)).length ≤ n - 2 - c ∧ e = .returned (.int .i64 0) ∧ ∃ c' S' p', VS w0 F' G' d jb n c' S' p' (recs ++ xs) w'))
theorem vs_append (w0 w : World) (F G : Nat → Prop) (d jb n c : Nat) (S : List (List UInt8)) (p : List (Nat × List UInt8)) (recs xs : List (List UInt8)) (v : Value) (h : VS w0 F G d jb n c S p recs w) (hn3 : 3 ≤ n) (hv : SR w (fun k => F k ∨ G k) v xs) (hx : xs ≠ []) (hlo : longB xs = false) (hm : xs.length ≤ 50000) (hl : ∀ t ∈ xs, t.length ≤ 10000000) (ht : (textP xs).length ≤ 10000000) (hrl : recs.length + xs.length ≤ 100000) :
    Calls Tryz.prog 13 #[.pointer (some ⟨jb, 0, none⟩), v] w (AppV w0 F G d jb n c S p recs xs w) := by
  refine (append_any w F G jb d n c ⟨S, p, false, none⟩ recs xs false v h.ds.dat h.jat h.sep h.ds.lay hv hm hl ht hrl h.few h.ds.f6 hn3).mono ?_
  rintro e w' (⟨hf, _⟩ | ⟨_, hlo', _⟩ | ⟨_, _, hro, rfl, hb⟩ | ⟨_, hx', _⟩ | ⟨_, _, _, hroom, F', G', g1, g2, g3, g4⟩)
  · cases hf
  · rw [hlo] at hlo'; cases hlo'
  · exact ⟨F, G, Stp.below hb, Or.inl ⟨hro, rfl, h.below hb⟩⟩
  · exact absurd hx' hx
  · have hn4 := h.ds.dat.n4
    have hcl := h.jat.le
    obtain ⟨_, b2⟩ := app_both (ts := pieces (textP xs)) h.good (h.ds.dat.vd.sec.settle h.ds.dat.vd.whole.le) hn3 (by omega) (longB_ok hlo) (pieces_flat _ _ (Nat.le_refl _)) (pieces_len _ _ (Nat.le_refl _)) (by omega)
    obtain ⟨S', p', e1, e2, e3⟩ := runs_pend n S p (appSegs c (pieces (textP xs)))
    rw [e1] at g1 g4
    rw [← e2] at b2
    have hf := h.few
    rcases g4 with ⟨_, rfl, g5⟩ | ⟨g5, _⟩
    · refine ⟨F', G', g2, Or.inr ⟨hroom, rfl, _, S', p', h.ds.stp2 g1 g2 h.gge, g5, g3, fun k hk => ?_, b2, by omega⟩⟩
      rcases g2.sub k (Or.inr hk) with y | y
      · exact y.elim (h.ds.ge k) (h.gge k)
      · exact Nat.le_trans h.ds.bel.size y
    · cases g5
/-- a law's walk: it has returned true -/
def Yes (w : World) (e : Ending) (w' : World) : Prop := e = .returned (.bool true) ∧ Below w.heap.size w w'
theorem fail_on (S : List (List UInt8)) (al : Option (Int × Int × Int)) (x y : Int) : PD.fail ⟨S, [], false, al⟩ x y = ⟨S, [], true, none⟩ := by
  unfold PD.fail
  simp [failS, settleS]
theorem start_off (S : List (List UInt8)) (al : Option (Int × Int × Int)) : PD.start ⟨S, [], true, al⟩ = ⟨S, [], false, none⟩ := rfl
theorem Stp.wide {F F' : Nat → Prop} {w w' : World} (h : Stp F w F' w') (G : Nat → Prop) : Stp (fun k => F k ∨ G k) w (fun k => F' k ∨ G k) w' :=
  ⟨h.out.mono fun _ _ e => Or.inl e, fun k e => by
    rcases e with e | e
    · rcases h.sub k e with y | y
      · exact Or.inl (Or.inl y)
      · exact Or.inr y
    · exact Or.inl (Or.inr e)⟩
theorem textP_a (x : UInt8) : textP [[x]] = [49, 58, x] := by
  rw [textP_cons, dec_small (show [x].length < 10 by simp)]
  rfl
theorem pieces_a (x : UInt8) : (pieces (textP [[x]])).length = 1 := by
  rw [textP_a, pieces_cons (by simp)]
  rw [show List.drop 46 [49, 58, x] = ([] : List UInt8) from rfl, pieces_nil]
  rfl
/-- records appended at a step of a region that draws its order -/
theorem step_append_strs {ops : Array Oper} {o : Oper} {a : Act} {K : Act → World → Prop} {Q : Exit → Act → World → Prop} {E : Prop} {w : World} (hgd : o.guard = none) (s x : Operand)
    (ho : o.op = .call { callee := .builtin .append, args := #[s, x], argTypes := #[26, 26] }) (base n : Nat) (v : Value) (xs ys : List (List UInt8)) (F : Nat → Prop) (xv : Value) (hs : a.eval s = v) (hx : a.eval x = xv) (hown : w.ownsRow base 9 1 v n (strs xs)) (hsr : SR w F xv ys) (hb : n + ys.length ≤ 1000000) (hbase : base ≤ w.heap.size)
    (h : ∀ v' w', w'.ownsRow base 9 1 v' (n + ys.length) (strs (xs ++ ys)) → w.grownBy w' v.ownBlock → (v'.ownBlock = v.ownBlock ∨ v'.ownBlock = some w.heap.size) → K (a.put o.dst v') w') :
    if Region.wanted o (yielded ops a.tmps) = true then Oper.wp Tryz.prog o a w K Q else E := by
  have hw : Region.wanted o (yielded ops a.tmps) = true := by simp [Region.wanted, hgd]
  rw [if_pos hw]
  obtain ⟨v', w', hrun, r1, r2, r3⟩ := run_append_strs w base n v xs ys F xv o.type hown hsr hb hbase
  unfold Oper.wp
  simp [execOp, ho, resolve, invoke, builtin, hs, hx, hrun, Result.andThen]
  exact h v' w' r1 r2 r3
end Go.Proofs.YtihoomlaggihlaaGreatDoor
