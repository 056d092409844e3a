/- The contract of filled, where there is room for a journal. Under the condition that the tables lie in memory as the program lays them. -/
import Derived.Test.YtihoomlaggihlaaDoorLA
namespace Go.Proofs.YtihoomlaggihlaaDoor
open Go.RowKit

theorem dec_le (n : Nat) : (Lib.decDigits n).length ≤ n + 1 := by
  induction n using Nat.strongRecOn with
  | _ n ih =>
    by_cases hs : n < 10
    · rw [dec_small hs]; simp
    · rw [dec_big hs, List.length_append, List.length_singleton]
      have := ih (n / 10) (by omega)
      omega
theorem textP_dbl : ∀ l : List (List UInt8), (textP l).length ≤ 2 * sumLen l + 2 * l.length
  | [] => by simp [textP]
  | x :: l => by
    have i := textP_dbl l
    have d := dec_le x.length
    rw [textP_cons]
    simp only [List.length_append, List.length_cons, sumLen, List.map_cons, List.sum_cons] at *
    omega
/-- filled, some operations done -/
structure Fill (w0 : World) (l : List ROp) (k n d : Nat) (F G : Nat → Prop) (jb c : Nat) (S recs : List (List UInt8)) (av : Value) (w : World) : Prop where
  bel : Below w0.heap.size w0 w
  st : St w F G d jb n c S recs none
  ge : ∀ x, F x ∨ G x → w0.heap.size ≤ x
  own : w.ownsRow w0.heap.size 9 1 av recs.length (strs recs)
  far : ∀ x, av.ownBlock = some x → ¬ F x ∧ ¬ G x
  len : recs.length ≤ 20 * k
  sum : sumLen recs ≤ total (l.take k)
  b6 : 6 ≤ w0.heap.size
theorem total_mono (l : List ROp) (k : Nat) (hk : k < l.length) : total (l.take k) ≤ total (l.take (k + 1)) := by
  rw [total_take l k hk]; omega
/-- nothing was appended -/
theorem Fill.no {w0 w w' : World} {l : List ROp} {k n d jb c c' : Nat} {F G F' G' : Nat → Prop} {S S' recs : List (List UInt8)} {av : Value} (h : Fill w0 l k n d F G jb c S recs av w) (hk : k < l.length) (hs : Stp (fun x => F x ∨ G x) w (fun x => F' x ∨ G' x) w') (st : St w' F' G' d jb n c' S' recs none) : Fill w0 l (k + 1) n d F' G' jb c' S' recs av w' := by
  have hz := h.bel.size
  refine ⟨h.bel.trans (hs.out.below hz (fun x e => h.ge x e)), st, fun x e => ?_, hs.out.own h.own (fun x hx e => e.elim (h.far x hx).1 (h.far x hx).2), fun x hx => ?_, by have := h.len; omega, Nat.le_trans h.sum (total_mono l k hk), h.b6⟩
  · rcases hs.sub x e with y | y
    · exact h.ge x y
    · omega
  · have l1 := (h.own.lt x hx).2
    have key : ¬ (F' x ∨ G' x) := fun e => by
      rcases hs.sub x e with y | y
      · exact y.elim (h.far x hx).1 (h.far x hx).2
      · omega
    exact ⟨fun e => key (Or.inl e), fun e => key (Or.inr e)⟩
/-- a batch was appended, and noted -/
theorem Fill.yes {w0 w w1 w2 : World} {l : List ROp} {k n d jb c c' : Nat} {F G F' G' : Nat → Prop} {S S' recs : List (List UInt8)} {av av' : Value} (h : Fill w0 l k n d F G jb c S recs av w) (hk : k < l.length) (h20 : l[k].list.length ≤ 20) (hs : Stp (fun x => F x ∨ G x) w (fun x => F' x ∨ G' x) w1) (st : St w1 F' G' d jb n c' S' (recs ++ l[k].list) none)
    (own : w2.ownsRow w0.heap.size 9 1 av' (recs.length + l[k].list.length) (strs (recs ++ l[k].list))) (gr : w1.grownBy w2 av.ownBlock) (ob : av'.ownBlock = av.ownBlock ∨ av'.ownBlock = some w1.heap.size) : Fill w0 l (k + 1) n d F' G' jb c' S' (recs ++ l[k].list) av' w2 := by
  have hz := h.bel.size
  have B1 : Below w0.heap.size w0 w1 := h.bel.trans (hs.out.below hz (fun x e => h.ge x e))
  have o1 := hs.out.own h.own (fun x hx e => e.elim (h.far x hx).1 (h.far x hx).2)
  have f1 : ∀ x, av.ownBlock = some x → ¬ F' x ∧ ¬ G' x := fun x hx => by
    have l1 := (h.own.lt x hx).2
    have key : ¬ (F' x ∨ G' x) := fun e => by
      rcases hs.sub x e with y | y
      · exact y.elim (h.far x hx).1 (h.far x hx).2
      · omega
    exact ⟨fun e => key (Or.inl e), fun e => key (Or.inr e)⟩
  have og : Out (fun x => av.ownBlock = some x) w1 w2 := Out.grown gr (fun x e => e)
  have g1 : ∀ x, F' x ∨ G' x → w0.heap.size ≤ x := fun x e => by
    rcases hs.sub x e with y | y
    · exact h.ge x y
    · omega
  refine ⟨B1.grown gr B1.size (fun x hx => (o1.lt x hx).1), ⟨st.dat.out og (fun x e => (f1 x e).1), st.jat.out og (fun x e => (f1 x e).2), st.sep, st.good, st.n3, st.f6, st.lay.out og (fun x e => ?_)⟩, g1, by rw [List.length_append]; exact own, fun x hx => ?_, ?_, ?_, h.b6⟩
  · have := (o1.lt x e).1
    have := h.b6
    omega
  · rcases ob with ob | ob
    · exact f1 x (ob ▸ hx)
    · rw [ob] at hx
      cases hx
      exact ⟨fun e => by have := st.dat.lt _ e; omega, fun e => by have := st.jat.lt _ e; omega⟩
  · rw [List.length_append]; have := h.len; omega
  · rw [total_take l k hk]
    have := h.sum
    simp only [sumLen, List.map_append, List.sum_append] at *
    omega
theorem list_sum {l : List ROp} {k : Nat} (hk : k < l.length) : sumLen l[k].list ≤ total l := by
  have h1 := total_take l k hk
  have h2 : total (l.take (k + 1)) ≤ total l := by
    conv => rhs; rw [← List.take_append_drop (k + 1) l]
    simp only [total, List.map_append, List.sum_append]
    omega
  omega
set_option maxHeartbeats 8000000 in
set_option maxRecDepth 100000 in
theorem filled_main (w : World) (A : Option Addr) (cp n : Nat) (l : List ROp) (h : RdP w A l) (hl : Light (n : Int) l) (hL : Laid w) (hn3 : 3 ≤ n) :
    Calls Tryd.prog 10 #[.int .i64 n, .slice A l.length cp] w (FillYes w n l) := by
  have HR := Lib.hid h
  have HLt := Lib.hid hl
  have HL := Lib.hid hL
  have hn40 := hl.s40
  have hl16 := hl.l16
  clear h hl hL
  go_enter Tryd.func10, Tryd.ntmps10
  go_wp2_with fail
  refine (new_yes w n (by omega) (by omega)).mono ?_
  rintro e w1 ⟨d, F0, rfl, g1, g2, g3⟩
  have HB := Lib.hid g2
  have hs6 := HL.out.size
  have HF0 := Lib.hid g3
  have HO := Lib.hid (open_good w1 F0 d n (List.replicate n zeroT) none g1 hn3 (fun k hk => Nat.le_trans hs6 (g3 k hk)) (HL.out.keep g2))
  clear g1 g2 g3
  go_wp2_with fail
  refine HO.out.mono ?_
  rintro e w2 (⟨hno, _⟩ | ⟨_, _, _, hne, _⟩ | ⟨c, recs, hop, jb, gv, F1, G1, S1, al1, rfl, hst, hal, hs1, hG1, _, _⟩)
  · exact absurd ⟨0, [], opn_new n hn3⟩ hno
  · exact absurd rfl hne
  obtain ⟨rfl, rfl⟩ := hop.same (opn_new n hn3)
  obtain rfl := hal rfl
  have hB2 : Below w.heap.size w w2 := HB.out.trans (hs1.out.below HB.out.size (fun x e => HF0.out x e))
  have hge : ∀ x, F1 x ∨ G1 x → w.heap.size ≤ x := fun x e => by
    rcases e with e | e
    · rcases hs1.sub x e with y | y
      · exact HF0.out x y
      · exact Nat.le_trans HB.out.size y
    · exact Nat.le_trans HB.out.size (hG1 x e)
  have hown : w2.ownsRow w.heap.size 9 1 (.slice Option.none 0 0) ([] : List (List UInt8)).length (strs []) := by
    simpa [strs] using World.ownsRow_nil w2 w.heap.size 9 1
  have H0 : Hid (Fill w l 0 n d F1 G1 jb 0 S1 [] (.slice Option.none 0 0) w2) := Lib.hid ⟨hB2, hst, hge, hown, fun x hx => by simp [Value.ownBlock] at hx, Nat.zero_le _, Nat.zero_le _, hs6⟩
  clear hge hown
  clear hst hs1 hG1 hop hB2 HO HF0
  clear HB hal
  go_wp2_with fail
  go_loopw [11, 12] (fun av i wr => ∃ (k : Nat) (F G : Nat → Prop) (c : Nat) (S recs : List (List UInt8)), k ≤ l.length ∧ i = .int .i64 k ∧ Hid (Fill w l k n d F G jb c S recs av wr)) (fun _ i _ => l.length - (intOf i).toNat)
  case atStart => exact ⟨0, F1, G1, 0, S1, [], by omega, rfl, H0⟩
  case round =>
    clear H0
    obtain ⟨k, F, G, c, S, recs, hk, rfl, M⟩ := hrel
    have hk0 : (0 : Int) ≤ (k : Int) := Int.natCast_nonneg _
    by_cases hlt : k < l.length
    · obtain ⟨b, o, sv, rfl, _, c1, _, _, _, hsv0⟩ := HR.out k hlt
      have hk1 : (k : Int) < (l.length : Int) := by omega
      have h20 := HLt.out.l20 _ (List.getElem_mem hlt)
      have hsum : sumLen l[k].list ≤ 6000 := Nat.le_trans (list_sum hlt) HLt.out.sum
      have hrl := M.out.len
      have hcw : ∀ W, Below w.heap.size w W → W.cell? ⟨b, o + k * 5 + 1, none⟩ = some sv := fun W hb => (hb.cell (p := ⟨b, o + k * 5 + 1, none⟩) (cell_lt c1)).trans c1
      have hsw : ∀ W (X : Nat → Prop), Below w.heap.size w W → (∀ x, X x → w.heap.size ≤ x) → SR W X sv l[k].list := fun W X hb hX => (hsv0.old.out (Out.of_below hb)).weak (fun x _ e => Or.inr (hX x e))
      have HCW := Lib.hid hcw
      have HSW := Lib.hid hsw
      obtain ⟨sa, sc, rfl, _⟩ := hsv0
      have cw := HCW.out _ M.out.bel
      have HA := Lib.hid (append_good wr F G d jb n c S recs none l[k].list _ M.out.st (fun x e => Nat.le_trans M.out.b6 (M.out.ge x (Or.inr e))) (HSW.out _ _ M.out.bel M.out.ge) (by omega) (fun t ht => by have := sum_mem ht; omega) (by have := textP_dbl l[k].list; omega) (by omega))
      clear c1 hcw hsw
      go_wp2_with fail
      refine HA.out.mono ?_
      rintro e w3 ⟨F', G', hs, ⟨c', S', al', rfl, st', hal, _, _⟩ | ⟨code, hcode, rfl, st'⟩ | ⟨hne, _⟩⟩
      · obtain rfl := hal rfl
        have HST := Lib.hid st'
        have HS := Lib.hid hs
        have hB3 : Below w.heap.size w w3 := M.out.bel.trans (hs.out.below M.out.bel.size (fun x e => M.out.ge x e))
        have HB3 := Lib.hid hB3
        have cw3 := HCW.out _ hB3
        have HO3 := Lib.hid (hs.out.own M.out.own (fun x hx e => e.elim (M.out.far x hx).1 (M.out.far x hx).2))
        clear hal st' hs hB3 HA
        go_wp2_with (at_builtin; refine wpList_append_strs rfl (.tmp 38) (.tmp 43) rfl w.heap.size recs.length _ recs l[k].list (fun _ => False) _ rfl rfl HO3.out (HSW.out w3 (fun _ => False) HB3.out (fun _ e => e.elim)) (by omega) HB3.out.size ?_)
        intro v' w4 o4 g4 b4
        have M2 := Lib.hid (M.out.yes hlt h20 HS.out HST.out o4 g4 b4)
        clear o4 g4 b4
        go_wp2_with fail
        go_roundw
        case rel => exact ⟨k + 1, F', G', c', S', recs ++ l[k].list, by omega, by go_num, M2⟩
        case measure => simp [intOf]; omega
      · have M2 := Lib.hid (M.out.no hlt hs st')
        clear hs st' HA
        rcases hcode with ⟨rfl, _⟩ | ⟨rfl, _⟩
        · go_wp2_with fail
          go_roundw
          case rel => exact ⟨k + 1, F', G', c, S, recs, by omega, by go_num, M2⟩
          case measure => simp [intOf]; omega
        · go_wp2_with fail
          go_roundw
          case rel => exact ⟨k + 1, F', G', c, S, recs, by omega, by go_num, M2⟩
          case measure => simp [intOf]; omega
      · exact absurd rfl hne
    · obtain rfl : k = l.length := by omega
      go_wp2_with fail
      go_ret3
      have m := M.out
      have hs := m.sum
      rw [List.take_length] at hs
      exact ⟨m.bel, F, G, d, jb, c, S, recs, _, rfl, m.st, m.ge, m.own, m.far, m.len, hs⟩
end Go.Proofs.YtihoomlaggihlaaDoor
