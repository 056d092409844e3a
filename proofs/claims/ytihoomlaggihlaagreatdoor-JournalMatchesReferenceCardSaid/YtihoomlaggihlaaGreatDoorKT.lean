/- What Append leaves behind, when a write fails and when all is written: plain facts. Under no condition. -/
import Derived.Test.YtihoomlaggihlaaGreatDoorKS
namespace Go.Proofs.YtihoomlaggihlaaGreatDoor
open Go.RowKit

/-- what Append leaves -/
def AppPost (w : World) (F G : Nat → Prop) (jb d n c : Nat) (D : PD) (recs xs ps : List (List UInt8)) (e : Ending) (w' : World) : Prop :=
  ∃ F' G', DAt w' F' d n (D.runs (appSegs c ps)).1 ∧ Stp (fun k => F k ∨ G k) w (fun k => F' k ∨ G' k) w' ∧ (∀ k, F' k → ¬ G' k) ∧
    (((D.runs (appSegs c ps)).2 = 0 ∧ e = .returned (.int .i64 0) ∧ JAt w' G' jb d n (c + ps.length) (recs ++ xs) false) ∨
     ((D.runs (appSegs c ps)).2 = 21 ∧ e = .returned (.int .i64 21) ∧ JAt w' G' jb d n c recs true))
theorem set4 {w : World} {jb : Nat} {a b c d e : Value} (h : w.heap[jb]? = some (.cells #[a, b, c, d, e] 53 (0, 0))) (u : Value) : (w.setCell ⟨jb, 4, none⟩ u).heap[jb]? = some (.cells #[a, b, c, d, u] 53 (0, 0)) := by
  have k := heap_setCell_same w jb 4 _ _ u h
  simpa using k
theorem set3 {w : World} {jb : Nat} {a b c d e : Value} (h : w.heap[jb]? = some (.cells #[a, b, c, d, e] 53 (0, 0))) (u : Value) : (w.setCell ⟨jb, 3, none⟩ u).heap[jb]? = some (.cells #[a, b, c, u, e] 53 (0, 0)) := by
  have k := heap_setCell_same w jb 3 _ _ u h
  simpa using k
theorem set2 {w : World} {jb : Nat} {a b c d e : Value} (h : w.heap[jb]? = some (.cells #[a, b, c, d, e] 53 (0, 0))) (u : Value) : (w.setCell ⟨jb, 2, none⟩ u).heap[jb]? = some (.cells #[a, b, u, d, e] 53 (0, 0)) := by
  have k := heap_setCell_same w jb 2 _ _ u h
  simpa using k
/-- the journal in memory: what is told apart from its cell -/
theorem SW.far {w wo wr : World} {F G F' : Nat → Prop} {be d n k : Nat} {D E : PD} {segs : List (List (Nat × List UInt8))} (M : SW wo F be d n D segs k E F' wr) (hw : Below w.heap.size w wo) (hFG : ∀ k, F k → ¬ G k) (hG : ∀ k, G k → k < w.heap.size) (hbe : w.heap.size ≤ be) {x : Nat} (hx : G x) : ¬ F' x := fun e => by
  have l := hG x hx
  have := hw.size
  rcases M.stp.sub x (Or.inl e) with y | y
  · rcases y with y | y
    · exact hFG x y hx
    · omega
  · omega
theorem app_fail {w wo wr w2 : World} {F G F' F2 : Nat → Prop} {jb d n c b6 b7 bj b8 k : Nat} {rv v8 v9 : Value} {recs xs ps : List (List UInt8)} {D E : PD} (P : PRE wo F jb d n c b6 b7 bj b8 rv v8 v9 ps) (hJ : JAt wo G jb d n c recs false) (hGl : ∀ k, G k → k < w.heap.size) (hFG : ∀ k, F k → ¬ G k) (hw : Below w.heap.size w wo) (hbj : bj = w.heap.size) (M : SW wo F (bj + 1) d n D (appSegs c ps) k E F' wr) (hk : k < (appSegs c ps).length) (h0 : (E.writes (appSegs c ps)[k]).2 = 21)
    (g1 : DAt w2 F2 d n (E.writes (appSegs c ps)[k]).1) (g2 : Stp F' wr F2 w2) :
    (∃ a b e v u, ((w2.setCell ⟨bj + 1, 0, none⟩ (.int .i64 21)).setCell ⟨bj + 1, 0, none⟩ (.int .i64 21)).heap[jb]? = some (.cells #[a, b, e, v, u] 53 (0, 0))) ∧
    ((w2.setCell ⟨bj + 1, 0, none⟩ (.int .i64 21)).setCell ⟨bj + 1, 0, none⟩ (.int .i64 21)).heap[bj]? = some (.cells #[.pointer (some ⟨jb, 0, none⟩)] 25 (0, 0)) ∧
    ((w2.setCell ⟨bj + 1, 0, none⟩ (.int .i64 21)).setCell ⟨bj + 1, 0, none⟩ (.int .i64 21)).heap[bj + 1]? = some (.cells #[.int .i64 21] 27 (0, 0)) ∧
    AppPost w F G jb d n c D recs xs ps (.returned (.int .i64 21)) (((w2.setCell ⟨bj + 1, 0, none⟩ (.int .i64 21)).setCell ⟨bj + 1, 0, none⟩ (.int .i64 21)).setCell ⟨jb, 4, none⟩ (.bool true)) := by
  have he2 := g2.out.heap M.he M.nF
  obtain ⟨s1, s2, s3⟩ := set_step (heap_lt M.he) M.nF g1 g2 (.int .i64 21)
  have o2 : Out (· = bj + 1) (w2.setCell ⟨bj + 1, 0, none⟩ (.int .i64 21)) ((w2.setCell ⟨bj + 1, 0, none⟩ (.int .i64 21)).setCell ⟨bj + 1, 0, none⟩ (.int .i64 21)) := Out.set _ (a := ⟨bj + 1, 0, none⟩) _ rfl
  have d2 := s1.out o2 (fun x e => by subst e; exact s3)
  have S := (M.stp.trans s2).trans (Stp.same (o2.mono (fun x _ e => Or.inr e)))
  have e2 := one_setCell (u := .int .i64 21) (one_setCell (u := .int .i64 21) he2)
  generalize hWd : (w2.setCell ⟨bj + 1, 0, none⟩ (.int .i64 21)).setCell ⟨bj + 1, 0, none⟩ (.int .i64 21) = wd at *
  have hjF : ¬ F2 jb ∧ ∀ x, G x → ¬ F2 x := by
    have key : ∀ x, G x → ¬ F2 x := fun x hx e => by
      have l := hGl x hx
      have := hw.size
      rcases S.sub x (Or.inl e) with y | y
      · rcases y with y | y
        · exact hFG x y hx
        · omega
      · omega
    exact ⟨key _ hJ.gj, key⟩
  have hnF : ∀ x, G x → ¬ (F x ∨ x = bj + 1) := fun x hx e => by
    rcases e with e | e
    · exact hFG x e hx
    · have := hGl x hx; omega
  have hJd : JAt wd G jb d n c recs false := hJ.out S.out (fun x e hx => hnF x hx e)
  have hbjd : wd.heap[bj]? = some (.cells #[.pointer (some ⟨jb, 0, none⟩)] 25 (0, 0)) := S.out.heap P.hj (fun e => by
    rcases e with e | e
    · have := P.nF _ e; omega
    · omega)
  obtain ⟨rv', m1, m2, m3⟩ := hJd.mem
  have o3 : Out (· = jb) wd (wd.setCell ⟨jb, 4, none⟩ (.bool true)) := Out.set wd (a := ⟨jb, 4, none⟩) _ rfl
  refine ⟨⟨_, _, _, _, _, m1⟩, hbjd, e2, F2, G, ?_, ?_, fun x hx hg => hjF.2 x hg hx, Or.inr ⟨?_, rfl, ?_⟩⟩
  · rw [M.stop hk h0]
    exact d2.out o3 (fun x e => by subst e; exact hjF.1)
  · refine ⟨?_, fun x hx => ?_⟩
    · refine ((Out.of_below hw).trans (S.out.mono (G := fun x => F x ∨ x = bj + 1) (fun _ _ e => e)) (fun x e => ?_)).trans o3 (fun x e => Or.inl (Or.inr (by rw [e]; exact hJ.gj)))
      rcases e with e | e
      · exact Or.inl (Or.inl e)
      · exact Or.inr (by omega)
    · rcases hx with hx | hx
      · rcases S.sub x (Or.inl hx) with y | y
        · rcases y with y | y
          · exact Or.inl (Or.inl y)
          · exact Or.inr (by omega)
        · exact Or.inr (Nat.le_trans hw.size y)
      · exact Or.inl (Or.inr hx)
  · rw [M.stop hk h0]
    exact h0
  · exact ⟨⟨rv', set4 m1 _, o3.own m2 (fun x hx e => by subst e; exact own_tag m2 m1 (by decide) hx), m3⟩, hJd.gj, fun x hx => Nat.lt_of_lt_of_le (hJd.lt x hx) o3.size, hJd.le, hJd.rl⟩
theorem app_done {w wo wr W1 w5 : World} {F G F' : Nat → Prop} {jb d n c b6 b7 bj b8 g cap : Nat} {rv v8 v9 : Value} {recs xs ps : List (List UInt8)} {D E : PD} (P : PRE wo F jb d n c b6 b7 bj b8 rv v8 v9 ps) (hJ : JAt wo G jb d n c recs false) (hGl : ∀ k, G k → k < w.heap.size) (hFG : ∀ k, F k → ¬ G k) (hw : Below w.heap.size w wo) (hbj : bj = w.heap.size) (M : SW wo F (bj + 1) d n D (appSegs c ps) (appSegs c ps).length E F' wr) (hrv : wo.ownsRow 0 9 1 rv recs.length (strs recs)) (hrG : ∀ k, rv.ownBlock = some k → G k) (hrl : recs.length + xs.length ≤ 100000)
    (hW1 : Below wr.heap.size (wr.setCell ⟨jb, 2, none⟩ (.int .i64 ((c : Int) + (ps.length : Int)))) W1)
    (o5 : w5.ownsRow 0 9 1 (.slice (some ⟨g, 0, none⟩) (recs.length + xs.length) cap) (recs.length + xs.length) (strs recs ++ strs xs)) (g5 : W1.grownBy w5 rv.ownBlock) (l5 : rv.ownBlock = some g ∨ g = W1.heap.size) :
    (∃ a b e v u, ((w5.setCell ⟨jb, 3, none⟩ (.slice (some ⟨g, 0, none⟩) (recs.length + xs.length) cap)).setCell ⟨bj + 1, 0, none⟩ (.int .i64 0)).heap[jb]? = some (.cells #[a, b, e, v, u] 53 (0, 0))) ∧
    ((w5.setCell ⟨jb, 3, none⟩ (.slice (some ⟨g, 0, none⟩) (recs.length + xs.length) cap)).setCell ⟨bj + 1, 0, none⟩ (.int .i64 0)).heap[bj]? = some (.cells #[.pointer (some ⟨jb, 0, none⟩)] 25 (0, 0)) ∧
    ((w5.setCell ⟨jb, 3, none⟩ (.slice (some ⟨g, 0, none⟩) (recs.length + xs.length) cap)).setCell ⟨bj + 1, 0, none⟩ (.int .i64 0)).heap[bj + 1]? = some (.cells #[.int .i64 0] 27 (0, 0)) ∧
    AppPost w F G jb d n c D recs xs ps (.returned (.int .i64 0)) (((w5.setCell ⟨jb, 3, none⟩ (.slice (some ⟨g, 0, none⟩) (recs.length + xs.length) cap)).setCell ⟨bj + 1, 0, none⟩ (.int .i64 0)).setCell ⟨jb, 4, none⟩ (.bool false)) := by
  have hws := hw.size
  have key : ∀ x, G x → ¬ F' x := fun x hx => M.far hw hFG hGl (by omega) hx
  have hnF : ∀ x, G x → ¬ (F x ∨ x = bj + 1) := fun x hx e => by
    rcases e with e | e
    · exact hFG x e hx
    · have := hGl x hx; omega
  have jr : wr.heap[jb]? = _ := M.stp.out.heap P.hb (hnF _ hJ.gj)
  have br : wr.heap[bj]? = _ := M.stp.out.heap P.hj (fun e => by
    rcases e with e | e
    · have := P.nF _ e; omega
    · omega)
  have rr : wr.ownsRow 0 9 1 rv recs.length (strs recs) := M.stp.out.own hrv (fun x hx => hnF x (hrG x hx))
  -- the count
  have o1 : Out (· = jb) wr (wr.setCell ⟨jb, 2, none⟩ (.int .i64 ((c : Int) + (ps.length : Int)))) := Out.set wr (a := ⟨jb, 2, none⟩) _ rfl
  have j1 := set2 jr (.int .i64 ((c : Int) + (ps.length : Int)))
  have b1 := o1.heap br (tag_ne br jr (by decide))
  have e1 := o1.heap M.he (tag_ne M.he jr (by decide))
  have r1 := o1.own rr (fun x hx e => by subst e; exact own_tag rr jr (by decide) hx)
  have z1 := o1.size
  generalize hw1 : wr.setCell ⟨jb, 2, none⟩ (.int .i64 ((c : Int) + (ps.length : Int))) = w1 at *
  -- what was drawn
  have hs1 : w1.heap.size = wr.heap.size := by rw [← hw1]; simp [World.setCell]
  rw [← hs1] at hW1
  have o2 : Out (fun _ => False) w1 W1 := Out.of_below hW1
  have j2 := o2.heap j1 id
  have b2 := o2.heap b1 id
  have e2 := o2.heap e1 id
  have r2 := o2.own r1 (fun _ _ => id)
  -- the records
  have o3 : Out (fun x => rv.ownBlock = some x) W1 w5 := Out.grown g5 (fun x e => e)
  have j3 := o3.heap j2 (own_tag r2 j2 (by decide))
  have b3 := o3.heap b2 (own_tag r2 b2 (by decide))
  have e3 := o3.heap e2 (own_tag r2 e2 (by decide))
  have o4 : Out (· = jb) w5 (w5.setCell ⟨jb, 3, none⟩ (.slice (some ⟨g, 0, none⟩) (recs.length + xs.length) cap)) := Out.set w5 (a := ⟨jb, 3, none⟩) _ rfl
  have j4 := set3 j3 (.slice (some ⟨g, 0, none⟩) (recs.length + xs.length) cap)
  have b4 := o4.heap b3 (tag_ne b3 j3 (by decide))
  have e4 := o4.heap e3 (tag_ne e3 j3 (by decide))
  have r4 := o4.own o5 (fun x hx e => by subst e; exact own_tag o5 j3 (by decide) hx)
  generalize hw4 : w5.setCell ⟨jb, 3, none⟩ (.slice (some ⟨g, 0, none⟩) (recs.length + xs.length) cap) = w4 at *
  have o6 : Out (· = bj + 1) w4 (w4.setCell ⟨bj + 1, 0, none⟩ (.int .i64 0)) := Out.set w4 (a := ⟨bj + 1, 0, none⟩) _ rfl
  have j6 := o6.heap j4 (tag_ne j4 e4 (by decide))
  have b6' := o6.heap b4 (tag_ne b4 e4 (by decide))
  have e6 := one_setCell (u := .int .i64 0) e4
  have r6 := o6.own r4 (fun x hx e => by subst e; exact own_tag r4 e4 (by decide) hx)
  generalize hw6 : w4.setCell ⟨bj + 1, 0, none⟩ (.int .i64 0) = w6 at *
  have o7 : Out (· = jb) w6 (w6.setCell ⟨jb, 4, none⟩ (.bool false)) := Out.set w6 (a := ⟨jb, 4, none⟩) _ rfl
  have j7 := set4 j6 (.bool false)
  have r7 := o7.own r6 (fun x hx e => by subst e; exact own_tag r6 j6 (by decide) hx)
  generalize hw7 : w6.setCell ⟨jb, 4, none⟩ (.bool false) = w7 at *
  -- all of it
  have O : Out (fun x => G x ∨ x = bj + 1) wr w7 := by
    have a1 : Out (fun x => G x ∨ x = bj + 1) wr w1 := o1.mono (fun x _ e => Or.inl (by rw [e]; exact hJ.gj))
    have a2 := a1.trans o2 (fun x e => e.elim)
    have a3 := a2.trans o3 (fun x e => Or.inl (Or.inl (hrG x e)))
    have a4 := a3.trans o4 (fun x e => Or.inl (Or.inl (by rw [e]; exact hJ.gj)))
    have a6 := a4.trans o6 (fun x e => Or.inl (Or.inr e))
    exact a6.trans o7 (fun x e => Or.inl (Or.inl (by rw [e]; exact hJ.gj)))
  have hz2 : wr.heap.size ≤ W1.heap.size := by rw [← hs1]; exact hW1.size
  have hgl : g < w7.heap.size := (r7.lt g rfl).2
  refine ⟨⟨_, _, _, _, _, j6⟩, b6', e6, F', (fun x => G x ∨ x = g), ?_, ?_, ?_, Or.inl ⟨?_, rfl, ?_⟩⟩
  · rw [M.done]
    exact M.dat.out O (fun x e => e.elim (key x) (fun e => by subst e; exact M.nF))
  · refine ⟨?_, fun x hx => ?_⟩
    · refine ((Out.of_below hw).trans (M.stp.out.mono (G := fun x => F x ∨ x = bj + 1) (fun _ _ e => e)) (fun x e => ?_)).trans O (fun x e => ?_)
      · rcases e with e | e
        · exact Or.inl (Or.inl e)
        · exact Or.inr (by omega)
      · rcases e with e | e
        · exact Or.inl (Or.inr e)
        · exact Or.inr (by omega)
    · rcases hx with hx | hx | hx
      · rcases M.stp.sub x (Or.inl hx) with y | y
        · rcases y with y | y
          · exact Or.inl (Or.inl y)
          · exact Or.inr (by omega)
        · exact Or.inr (Nat.le_trans hws y)
      · exact Or.inl (Or.inr hx)
      · rcases l5 with l5 | l5
        · exact Or.inl (Or.inr (by rw [hx]; exact hrG _ l5))
        · have := M.stp.out.size
          exact Or.inr (by omega)
  · intro x hx hg
    rcases hg with hg | hg
    · exact key x hg hx
    · rcases l5 with l5 | l5
      · exact key x (by rw [hg]; exact hrG _ l5) hx
      · have := M.dat.lt x hx
        omega
  · rw [M.done]
  · have hroom := P.room
    refine ⟨⟨.slice (some ⟨g, 0, none⟩) (recs.length + xs.length) cap, ?_, ?_, fun x hx => Or.inr ?_⟩, Or.inl hJ.gj, fun x hx => ?_, by omega, by rw [List.length_append]; exact hrl⟩
    · rw [j7, show (c : Int) + (ps.length : Int) = ((c + ps.length : Nat) : Int) by omega]
    · rw [List.length_append, strs_app]
      exact r7
    · simp only [Value.ownBlock, Option.some.injEq] at hx
      exact hx.symm
    · rcases hx with hx | hx
      · have := hGl x hx
        have := M.stp.out.size
        have := O.size
        omega
      · omega
end Go.Proofs.YtihoomlaggihlaaGreatDoor
