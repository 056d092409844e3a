/- The disk in memory as plain data; the contracts of Fail and count. Under no condition but sizes. -/
import Derived.Test.YtihoomlaggihlaaGreatDoorJH
namespace Go.Proofs.YtihoomlaggihlaaGreatDoor
open Go.RowKit

theorem flat_take {n : Nat} : ∀ {ss : List (List UInt8)}, (∀ s ∈ ss, s.length = n) → ss.flatten.length = n * ss.length
  | [], _ => by simp
  | s :: ss, h => by
    rw [List.flatten_cons, List.length_append, h s (by simp), flat_take (fun t ht => h t (by simp [ht])), List.length_cons, Nat.mul_add, Nat.mul_one, Nat.add_comm]
theorem Sec.flat {n : Nat} {ss : List (List UInt8)} (h : Sec n ss) : ss.flatten.length = 64 * n := by rw [flat_take h.2, h.1]
theorem Sec.split {n : Nat} {ss : List (List UInt8)} (h : Sec n ss) {i : Nat} (hi : i < n) : ∃ A C : List (List UInt8), ss = A ++ ss.getD i [] :: C ∧ A.length = i ∧ A.flatten.length = 64 * i := by
  have hl : i < ss.length := by rw [h.1]; exact hi
  refine ⟨ss.take i, ss.drop (i + 1), ?_, by simp; omega, ?_⟩
  · rw [List.getD_eq_getElem?_getD, List.getElem?_eq_getElem hl, Option.getD_some, List.getElem_cons_drop, List.take_append_drop]
  · rw [flat_take (fun t ht => h.2 t (List.mem_of_mem_take ht)), List.length_take, Nat.min_eq_left (by omega)]
theorem flat_put {n : Nat} {ss : List (List UInt8)} (h : Sec n ss) {i : Nat} (hi : i < n) {t : List UInt8} (ht : t.length ≤ 64) : (put1 ss i t).flatten = putB ss.flatten i t := by
  obtain ⟨A, C, e, hA, hF⟩ := h.split hi
  have hx := h.at hi
  unfold put1
  generalize ss.getD i [] = x at *
  rw [e, List.set_append_right _ _ (by omega), hA, Nat.sub_self, List.set_cons_zero]
  unfold putB
  rw [List.flatten_append, List.flatten_append, List.flatten_cons, List.flatten_cons, List.take_append_of_le_length (by omega), List.take_of_length_le (by omega), List.drop_append, List.drop_of_length_le (l := A.flatten) (by omega), List.nil_append, hF, show 64 * i + t.length - 64 * i = t.length by omega, List.drop_append_of_le_length (by omega), List.append_assoc, List.append_assoc]
theorem flat_settle {n : Nat} : ∀ {l : List (Nat × List UInt8)} {ss : List (List UInt8)}, Sec n ss → (∀ p ∈ l, p.1 < n ∧ p.2.length ≤ 64) → (settleS ss l).flatten = settleB ss.flatten l
  | [], _, _, _ => rfl
  | p :: l, ss, h, hl => by
    have hp := hl p (by simp)
    rw [settle_cons, flat_settle (h.put hp.1 hp.2) (fun q hq => hl q (by simp [hq])), flat_put h hp.1 hp.2]
    rfl
theorem flat_fail {n : Nat} {l : List (Nat × List UInt8)} {ss : List (List UInt8)} (h : Sec n ss) (hl : Whole n l) (k j : Nat) : (failS ss l k j).flatten = failB ss.flatten l k j := by
  by_cases hk : k < l.length
  · rw [fail_at hk, failB_some _ _ _ _ hk, flat_put (h.settle (hl.take k).le) (hl _ (List.getElem_mem hk)).1 (by rw [List.length_take, (hl _ (List.getElem_mem hk)).2]; omega), flat_settle h (hl.take k).le]
  · rw [fail_all (by omega), flat_settle h hl.le]
    unfold failB
    rw [List.getElem?_eq_none (by omega)]

theorem flatP_length : ∀ l : List (Nat × List UInt8), (flatP l).length = l.length * 3
  | [] => rfl
  | p :: l => by
    have := flatP_length l
    simp [flatP] at this ⊢
    omega
theorem flatP_get : ∀ (l : List (Nat × List UInt8)) (k : Nat) (h : k < l.length), (flatP l)[k * 3]? = some (.int .i64 ((l[k].1 : Int) * 64)) ∧ (flatP l)[k * 3 + 1]? = some (.int .i64 (((l[k].1 : Int) + 1) * 64)) ∧ (flatP l)[k * 3 + 2]? = some (.string ⟨l[k].2.toArray⟩)
  | [], k, h => absurd h (by simp)
  | p :: l, 0, _ => by simp [flatP]
  | p :: l, k + 1, h => by
    have := flatP_get l k (by simpa using h)
    have e : flatP (p :: l) = [.int .i64 ((p.1 : Int) * 64), .int .i64 (((p.1 : Int) + 1) * 64), .string ⟨p.2.toArray⟩] ++ flatP l := by simp [flatP]
    rw [e, List.getElem?_append_right (by simp; omega), List.getElem?_append_right (by simp; omega), List.getElem?_append_right (by simp; omega)]
    simp only [List.length_cons, List.length_nil, List.getElem_cons_succ]
    rw [show (k + 1) * 3 - (0 + 1 + 1 + 1) = k * 3 by omega, show (k + 1) * 3 + 1 - (0 + 1 + 1 + 1) = k * 3 + 1 by omega, show (k + 1) * 3 + 2 - (0 + 1 + 1 + 1) = k * 3 + 2 by omega]
    exact this
/-- the alarm in memory, its block in the footprint -/
def AlAt (w : World) (F : Nat → Prop) (av : Value) (al : Option (Int × Int × Int)) : Prop :=
  match al with
  | none => av = .pointer none
  | some (a, b, c) => ∃ g, av = .pointer (some ⟨g, 0, none⟩) ∧ F g ∧ w.heap[g]? = some (.cells #[.int .i64 a, .int .i64 b, .int .i64 c] 95 (0, 0))
/-- the disk in memory: all its blocks in the footprint -/
structure DAt (w : World) (F : Nat → Prop) (d n : Nat) (D : PD) : Prop where
  vd : Vd n D
  n4 : n ≤ 4000
  lt : ∀ k, F k → k < w.heap.size
  fd : F d
  mem : ∃ sb qv av, DB w d sb n qv D.off av ∧ w.heap[sb]? = some (.cells (bytesV D.ss.flatten).toArray 5 (0, 0)) ∧ w.ownsRow 0 88 3 qv D.pend.length (flatP D.pend) ∧ AlAt w F av D.alarm ∧ F sb ∧ ∀ k, qv.ownBlock = some k → F k
theorem tag_ne {w : World} {a b : Nat} {cs ds : Array Value} {s t : TypeId} (h : w.heap[a]? = some (.cells cs s (0, 0))) (g : w.heap[b]? = some (.cells ds t (0, 0))) (hst : s ≠ t) : a ≠ b := by
  rintro rfl
  rw [h] at g
  cases g
  exact hst rfl
/-- the footprint after an operation: old blocks of it, and new ones -/
structure Stp (F : Nat → Prop) (w : World) (F' : Nat → Prop) (w' : World) : Prop where
  out : Out F w w'
  sub : ∀ k, F' k → F k ∨ w.heap.size ≤ k
theorem Stp.refl (F : Nat → Prop) (w : World) : Stp F w F w := ⟨Out.refl F w, fun _ h => Or.inl h⟩
theorem Stp.trans {F G H : Nat → Prop} {w w' w'' : World} (h : Stp F w G w') (g : Stp G w' H w'') : Stp F w H w'' :=
  ⟨h.out.trans g.out h.sub, fun k hk => by
    rcases g.sub k hk with e | e
    · exact h.sub k e
    · exact Or.inr (Nat.le_trans h.out.size e)⟩
theorem Stp.below {F : Nat → Prop} {w w' : World} (h : Below w.heap.size w w') : Stp F w F w' := ⟨Out.of_below h, fun _ e => Or.inl e⟩
theorem Stp.same {F : Nat → Prop} {w w' : World} (h : Out F w w') : Stp F w F w' := ⟨h, fun _ e => Or.inl e⟩
theorem AlAt.below {w w' : World} {F : Nat → Prop} {av : Value} {al : Option (Int × Int × Int)} (h : AlAt w F av al) (o : Below w.heap.size w w') : AlAt w' F av al := by
  unfold AlAt at *
  rcases al with _ | ⟨a, b, c⟩
  · exact h
  · obtain ⟨g, e, hF, hg⟩ := h
    exact ⟨g, e, hF, (o.block _ (heap_lt hg)).trans hg⟩
theorem own_below {w w' : World} {base e size n : Nat} {v : Value} {xs : List Value} (h : w.ownsRow base e size v n xs) (o : Below w.heap.size w w') : w'.ownsRow base e size v n xs := (Out.of_below (F := fun _ => False) o).own h (fun _ _ => id)
theorem DAt.below {w w' : World} {F : Nat → Prop} {d n : Nat} {D : PD} (h : DAt w F d n D) (o : Below w.heap.size w w') : DAt w' F d n D := by
  obtain ⟨sb, qv, av, h1, h2, h3, h4, h5, h6⟩ := h.mem
  exact ⟨h.vd, h.n4, fun k hk => Nat.lt_of_lt_of_le (h.lt k hk) o.size, h.fd, sb, qv, av, h1.keep o, (o.block _ (heap_lt h2)).trans h2, own_below h3 o, h4.below o, h5, h6⟩
/-- the queue: none, or a row -/
theorem queue_at {w : World} {sb : Nat} {qv : Value} {l : List (Nat × List UInt8)} {cs : Array Value} (h : w.ownsRow 0 88 3 qv l.length (flatP l)) (hs : w.heap[sb]? = some (.cells cs 5 (0, 0))) :
    (qv = .slice none 0 0 ∧ l = []) ∨ ∃ q c, qv = .slice (some ⟨q, 0, none⟩) l.length c ∧ l.length ≤ c ∧ c ≤ 9223372036854775807 ∧ QAt w (some ⟨q, 0, none⟩) sb l ∧ q ≠ sb := by
  rcases h.2 with ⟨rfl, e⟩ | ⟨g, cap, cur, rfl, _, hg, hc, hm, _, ht⟩
  · exact Or.inl ⟨rfl, List.eq_nil_of_length_eq_zero e⟩
  · refine Or.inr ⟨g, cap, rfl, hc, hm, fun k hk => ⟨g, cur, rfl, tag_ne hg hs (by decide), hg, ?_⟩, tag_ne hg hs (by decide)⟩
    have f := flatP_get l k hk
    rw [← ht] at f
    rw [List.getElem?_take_of_lt (by omega), List.getElem?_take_of_lt (by omega), List.getElem?_take_of_lt (by omega)] at f
    simpa using f
theorem DAt.after {w w' : World} {F : Nat → Prop} {d sb n : Nat} {D E : PD} (h : DAt w F d n D) (hv : Vd n E) (hb : F sb) (hd : DB w' d sb n (.slice none 0 0) E.off (.pointer none)) (hs : w'.heap[sb]? = some (.cells (bytesV E.ss.flatten).toArray 5 (0, 0))) (hp : E.pend = []) (ha : E.alarm = none) (o : Out F w w') : DAt w' F d n E :=
  ⟨hv, h.n4, fun k hk => Nat.lt_of_lt_of_le (h.lt k hk) o.size, h.fd, sb, _, _, hd, hs, by rw [hp]; exact World.ownsRow_nil _ _ _ _, by rw [ha]; rfl, hb, by simp [Value.ownBlock]⟩
theorem Vd.fail {n : Nat} {D : PD} (h : Vd n D) (x y : Int) : Vd n (D.fail x y) := by
  unfold PD.fail
  split
  · exact h
  · exact ⟨h.sec.fail h.whole _ _, by simp [Whole], by simp⟩

theorem fail_any (w : World) (F : Nat → Prop) (d n : Nat) (D : PD) (x y : Int) (h : DAt w F d n D) (hm : D.pend.length ≤ 100000) :
    Calls Tryz.prog 20 #[.pointer (some ⟨d, 0, none⟩), .int .i64 x, .int .i64 y] w fun e w' => e = .returned (.tuple #[]) ∧ DAt w' F d n (D.fail x y) ∧ Out F w w' := by
  obtain ⟨sb, qv, av, h1, h2, h3, h4, h5, h6⟩ := h.mem
  have hv := h.vd.fail x y
  have hds : d ≠ sb := tag_ne h1 h2 (by decide)
  have hsub : ∀ k, k < w.heap.size → (k = d ∨ k = sb) → F k := fun k _ hk => by
    rcases hk with rfl | rfl
    · exact h.fd
    · exact h5
  obtain ⟨ss, pend, off, al⟩ := D
  simp only at *
  cases off
  · have hl := h.vd.sec.flat
    have hp := h.vd.whole
    unfold PD.fail at *
    simp only [Bool.false_eq_true, if_false] at *
    rcases queue_at h3 h2 with ⟨rfl, rfl⟩ | ⟨q, c, rfl, hc, _, hq, _⟩
    · refine (fail_nil w d sb n av ss.flatten x y h1 hds h2 hl).mono ?_
      rintro e w' ⟨rfl, g1, g2, g3⟩
      have e0 : failS ss [] (max x 0).toNat (min (max y 0) 64).toNat = ss := by rw [fail_all (by simp)]; rfl
      rw [e0] at hv ⊢
      exact ⟨rfl, h.after hv h5 g1 g2 rfl rfl (g3.mono hsub), g3.mono hsub⟩
    · by_cases hk : (max x 0).toNat < pend.length
      · refine (fail_some w d sb n q c (max x 0).toNat (min (max y 0) 64).toNat av ss.flatten pend x y h1 hds h2 hl hp hq hm hc (by omega) hk (by omega)).mono ?_
        rintro e w' ⟨rfl, g1, g2, g3⟩
        exact ⟨rfl, h.after hv h5 g1 (by rw [flat_fail h.vd.sec hp]; exact g2) rfl rfl (g3.mono hsub), g3.mono hsub⟩
      · refine (fail_full w d sb n q c av ss.flatten pend x y h1 hds h2 hl hp hq hm hc (by omega)).mono ?_
        rintro e w' ⟨rfl, g1, g2, g3⟩
        have e0 : failS ss pend (max x 0).toNat (min (max y 0) 64).toNat = settleS ss pend := fail_all (by omega) _
        rw [e0] at hv ⊢
        exact ⟨rfl, h.after hv h5 g1 (by rw [flat_settle h.vd.sec hp.le]; exact g2) rfl rfl (g3.mono hsub), g3.mono hsub⟩
  · refine (fail_off w d sb n qv av x y h1).mono ?_
    rintro e w' ⟨rfl, rfl⟩
    exact ⟨rfl, by unfold PD.fail; simpa using h, Out.refl F w⟩
end Go.Proofs.YtihoomlaggihlaaGreatDoor
