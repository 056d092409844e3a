/- Append's four writes, as its second loop makes them: plain facts. Under no condition. -/
import Derived.Test.YtihoomlaggihlaaGreatDoorKQ
import Derived.Test.YtihoomlaggihlaaGreatDoorKJ
namespace Go.Proofs.YtihoomlaggihlaaGreatDoor
open Go.RowKit

theorem AlAt.out {w w' : World} {F G : Nat → Prop} {av : Value} {al : Option (Int × Int × Int)} (h : AlAt w F av al) (o : Out G w w') (hd : ∀ k, G k → ¬ F k) : AlAt w' F av al := by
  unfold AlAt at *
  rcases al with _ | ⟨a, b, c⟩
  · exact h
  · obtain ⟨q, h1, h2, h3⟩ := h
    exact ⟨q, h1, h2, o.heap h3 (fun e => hd _ e h2)⟩
theorem DAt.out {w w' : World} {F G : Nat → Prop} {d n : Nat} {D : PD} (h : DAt w F d n D) (o : Out G w w') (hd : ∀ k, G k → ¬ F k) : DAt w' F d n D := by
  obtain ⟨sb, qv, av, h1, h2, h3, h4, h5, h6⟩ := h.mem
  exact ⟨h.vd, h.n4, fun k hk => Nat.lt_of_lt_of_le (h.lt k hk) o.size, h.fd, sb, qv, av, o.heap h1 (fun e => hd _ e h.fd), o.heap h2 (fun e => hd _ e h5), o.own h3 (fun k hk e => hd _ e (h6 k hk)), h4.out o hd, h5, h6⟩
/-- some of the writes are done -/
structure SW (wo : World) (F : Nat → Prop) (be d n : Nat) (D : PD) (segs : List (List (Nat × List UInt8))) (k : Nat) (E : PD) (F' : Nat → Prop) (w : World) : Prop where
  dat : DAt w F' d n E
  stp : Stp (fun x => F x ∨ x = be) wo (fun x => F' x ∨ x = be) w
  run : D.runs segs = E.runs (segs.drop k)
  pend : E.pend.length ≤ 1000
  he : w.heap[be]? = some (.cells #[.int .i64 0] 27 (0, 0))
  nF : ¬ F' be
theorem SW.start {wo : World} {F : Nat → Prop} {be d n : Nat} {D : PD} (segs : List (List (Nat × List UInt8))) (h : DAt wo F d n D) (hp : D.pend.length ≤ 1000) (he : wo.heap[be]? = some (.cells #[.int .i64 0] 27 (0, 0))) (hn : ¬ F be) : SW wo F be d n D segs 0 D F wo :=
  ⟨h, Stp.refl _ _, rfl, hp, he, hn⟩
theorem set_step {wr w2 : World} {F' F2 : Nat → Prop} {be d n : Nat} {E' : PD} (hl : be < wr.heap.size) (nF : ¬ F' be) (hd : DAt w2 F2 d n E') (hs : Stp F' wr F2 w2) (v : Value) :
    DAt (w2.setCell ⟨be, 0, none⟩ v) F2 d n E' ∧ Stp (fun x => F' x ∨ x = be) wr (fun x => F2 x ∨ x = be) (w2.setCell ⟨be, 0, none⟩ v) ∧ ¬ F2 be := by
  have n2 : ¬ F2 be := fun e => by
    rcases hs.sub _ e with x | x
    · exact nF x
    · omega
  have o1 : Out (· = be) w2 (w2.setCell ⟨be, 0, none⟩ v) := Out.set w2 (a := ⟨be, 0, none⟩) _ rfl
  refine ⟨hd.out o1 (fun k e => by subst e; exact n2), ⟨(hs.out.mono (fun k _ e => Or.inl e)).trans o1 (fun k e => Or.inl (Or.inr e)), fun k hk => ?_⟩, n2⟩
  rcases hk with hk | hk
  · rcases hs.sub k hk with x | x
    · exact Or.inl (Or.inl x)
    · exact Or.inr x
  · exact Or.inl (Or.inr hk)
theorem SW.step {wo wr w2 : World} {F F' F2 : Nat → Prop} {be d n k : Nat} {D E : PD} {segs : List (List (Nat × List UInt8))} (h : SW wo F be d n D segs k E F' wr) (hk : k < segs.length) (h0 : (E.writes segs[k]).2 = 0) (hd : DAt w2 F2 d n (E.writes segs[k]).1) (hs : Stp F' wr F2 w2) :
    SW wo F be d n D segs (k + 1) (E.writes segs[k]).1 F2 (w2.setCell ⟨be, 0, none⟩ (.int .i64 0)) := by
  have he2 := hs.out.heap h.he h.nF
  obtain ⟨g1, g2, g3⟩ := set_step (heap_lt h.he) h.nF hd hs (.int .i64 0)
  refine ⟨g1, h.stp.trans g2, ?_, by rw [writes_pend _ _ h0]; simp, one_setCell he2, g3⟩
  rw [h.run, List.drop_eq_getElem_cons hk, PD.runs, if_pos h0]
theorem SW.stop {wo wr : World} {F F' : Nat → Prop} {be d n k : Nat} {D E : PD} {segs : List (List (Nat × List UInt8))} (h : SW wo F be d n D segs k E F' wr) (hk : k < segs.length) (h0 : (E.writes segs[k]).2 = 21) : D.runs segs = E.writes segs[k] := by
  rw [h.run, List.drop_eq_getElem_cons hk, PD.runs, if_neg (by rw [h0]; decide)]
theorem SW.done {wo wr : World} {F F' : Nat → Prop} {be d n : Nat} {D E : PD} {segs : List (List (Nat × List UInt8))} (h : SW wo F be d n D segs segs.length E F' wr) : D.runs segs = (E, 0) := by
  rw [h.run, List.drop_length]
  rfl
/-- what stands in memory ahead of the writes -/
structure PRE (wo : World) (F : Nat → Prop) (jb d n c b6 b7 bj b8 : Nat) (rv v8 v9 : Value) (ps : List (List UInt8)) : Prop where
  hj : wo.heap[bj]? = some (.cells #[.pointer (some ⟨jb, 0, none⟩)] 25 (0, 0))
  he : wo.heap[bj + 1]? = some (.cells #[.int .i64 0] 27 (0, 0))
  hb : wo.heap[jb]? = some (.cells #[.pointer (some ⟨d, 0, none⟩), .int .i64 n, .int .i64 c, rv, .bool false] 53 (0, 0))
  h6 : wo.heap[b6]? = some (.cells #[.int .i64 ((2 : Int) + (c : Int))] 3 (0, 0))
  h7 : wo.heap[b7]? = some (.cells #[.int .i64 ((c : Int) + (ps.length : Int))] 3 (0, 0))
  h8 : wo.heap[b8]? = some (.cells #[v8] 26 (0, 0))
  h9 : wo.heap[b8 + 1]? = some (.cells #[v9] 26 (0, 0))
  o8 : wo.ownsRow b8 9 1 v8 ps.length (strs (ps.map fun _ => zeroT))
  o9 : wo.ownsRow b8 9 1 v9 ps.length (strs (sects (2 + c) ps))
  nF : ∀ x, F x → x < bj
  nj : ¬ F jb
  g6 : bj ≤ b6
  g7 : bj ≤ b7
  g8 : bj ≤ b8
  lay : Laid wo
  f6 : ∀ x, F x → 6 ≤ x
  j6 : 6 ≤ bj
  room : 2 + c + ps.length ≤ n
  n4 : n ≤ 4000
  n3 : 3 ≤ n
  t46 : ∀ t ∈ ps, t.length ≤ 46
theorem SW.get {wo wr : World} {F F' : Nat → Prop} {be d n k X : Nat} {D E : PD} {segs : List (List (Nat × List UInt8))} {o : Obj} (M : SW wo F be d n D segs k E F' wr) (hX : wo.heap[X]? = some o) (h1 : ¬ F X) (h2 : X ≠ be) : wr.heap[X]? = some o ∧ ¬ F' X := by
  have hl : X < wo.heap.size := by
    by_cases e : X < wo.heap.size
    · exact e
    · rw [Array.getElem?_eq_none (by omega)] at hX
      cases hX
  refine ⟨M.stp.out.heap hX (fun e => e.elim h1 h2), fun e => ?_⟩
  rcases M.stp.sub X (Or.inl e) with x | x
  · exact x.elim h1 h2
  · omega
theorem SW.row {wo wr : World} {F F' : Nat → Prop} {be d n k base : Nat} {D E : PD} {segs : List (List (Nat × List UInt8))} {v : Value} {xs : List (List UInt8)} (M : SW wo F be d n D segs k E F' wr) (he : wo.heap[be]? = some (.cells #[.int .i64 0] 27 (0, 0))) (ho : wo.ownsRow base 9 1 v xs.length (strs xs)) (hF : ∀ x, F x → x < base) : SR wr F' v xs := by
  have hne : ∀ x, v.ownBlock = some x → x ≠ be := fun x hx e => by
    subst e
    exact own_tag ho he (by decide) hx
  have hnF : ∀ x, v.ownBlock = some x → ¬ F x := fun x hx e => by
    have := hF x e
    have := (ho.lt x hx).1
    omega
  refine SR.own (M.stp.out.own ho (fun x hx e => e.elim (hnF x hx) (hne x hx))) (fun x hx e => ?_)
  rcases M.stp.sub x (Or.inl e) with y | y
  · exact y.elim (hnF x hx) (hne x hx)
  · have := (ho.lt x hx).2
    omega
theorem call43 {wo wr : World} {F F' : Nat → Prop} {jb d n c b6 b7 bj b8 k : Nat} {rv v8 v9 : Value} {ps : List (List UInt8)} {D E : PD} {segs : List (List (Nat × List UInt8))} (P : PRE wo F jb d n c b6 b7 bj b8 rv v8 v9 ps) (M : SW wo F (bj + 1) d n D segs k E F' wr) :
    Calls Tryz.prog 49 #[.pointer (some ⟨bj, 0, none⟩), .pointer (some ⟨b6, 0, none⟩), .pointer (some ⟨b8, 0, none⟩)] wr fun e w' => e = .returned (.int .i64 (E.writes (rowAt (2 + c) (ps.map fun _ => zeroT))).2) ∧ ∃ F2, DAt w' F2 d n (E.writes (rowAt (2 + c) (ps.map fun _ => zeroT))).1 ∧ Stp F' wr F2 w' := by
  have hlt : ∀ x, bj ≤ x → ¬ F x := fun x hx e => by have := P.nF x e; omega
  have h6 := P.h6
  rw [show (2 : Int) + (c : Int) = ((2 + c : Nat) : Int) by omega] at h6
  have j1 := M.get P.hb P.nj (tag_ne P.hb P.he (by decide))
  refine cl_row43 wr F' jb d n (2 + c) bj b6 b8 E _ v8 (ps.map fun _ => zeroT) M.dat j1.1 rfl j1.2 (M.row P.he (by rw [List.length_map]; exact P.o8) (fun x e => by have := P.nF x e; have := P.g8; omega)) (fun t ht => ?_) (by rw [List.length_map]; exact P.room) (Nat.le_trans M.pend (by decide)) (M.get P.hj (hlt _ (Nat.le_refl _)) (tag_ne P.hj P.he (by decide))).1 (M.get h6 (hlt _ P.g6) (tag_ne h6 P.he (by decide))).1 (M.get P.h8 (hlt _ P.g8) (tag_ne P.h8 P.he (by decide))).1
  obtain ⟨_, _, rfl⟩ := List.mem_map.1 ht
  exact zeroT_len
theorem call44 {wo wr : World} {F F' : Nat → Prop} {jb d n c b6 b7 bj b8 k : Nat} {rv v8 v9 : Value} {ps : List (List UInt8)} {D E : PD} {segs : List (List (Nat × List UInt8))} (P : PRE wo F jb d n c b6 b7 bj b8 rv v8 v9 ps) (M : SW wo F (bj + 1) d n D segs k E F' wr) :
    Calls Tryz.prog 50 #[.pointer (some ⟨bj, 0, none⟩), .pointer (some ⟨b6, 0, none⟩), .pointer (some ⟨b8 + 1, 0, none⟩)] wr fun e w' => e = .returned (.int .i64 (E.writes (rowAt (2 + c) (sects (2 + c) ps))).2) ∧ ∃ F2, DAt w' F2 d n (E.writes (rowAt (2 + c) (sects (2 + c) ps))).1 ∧ Stp F' wr F2 w' := by
  have hlt : ∀ x, bj ≤ x → ¬ F x := fun x hx e => by have := P.nF x e; omega
  have h6 := P.h6
  rw [show (2 : Int) + (c : Int) = ((2 + c : Nat) : Int) by omega] at h6
  have j1 := M.get P.hb P.nj (tag_ne P.hb P.he (by decide))
  exact cl_row44 wr F' jb d n (2 + c) bj b6 (b8 + 1) E _ v9 (sects (2 + c) ps) M.dat j1.1 rfl j1.2 (M.row P.he (by rw [sects_len]; exact P.o9) (fun x e => by have := P.nF x e; have := P.g8; omega)) (sects_64 _ _ P.t46) (by rw [sects_len]; exact P.room) (Nat.le_trans M.pend (by decide)) (M.get P.hj (hlt _ (Nat.le_refl _)) (tag_ne P.hj P.he (by decide))).1 (M.get h6 (hlt _ P.g6) (tag_ne h6 P.he (by decide))).1 (M.get P.h9 (hlt _ (Nat.le_succ_of_le P.g8)) (tag_ne P.h9 P.he (by decide))).1
theorem SW.laid {wo wr : World} {F F' : Nat → Prop} {be d n k : Nat} {D E : PD} {segs : List (List (Nat × List UInt8))} (M : SW wo F be d n D segs k E F' wr) (hL : Laid wo) (h6 : ∀ x, F x → 6 ≤ x) (hb : 6 ≤ be) : Laid wr :=
  hL.out M.stp.out (fun x e => e.elim (h6 x) (fun e => by rw [e]; exact hb))
theorem call45 {wo wr : World} {F F' : Nat → Prop} {jb d n c b6 b7 bj b8 k : Nat} {rv v8 v9 : Value} {ps : List (List UInt8)} {D E : PD} {segs : List (List (Nat × List UInt8))} (P : PRE wo F jb d n c b6 b7 bj b8 rv v8 v9 ps) (M : SW wo F (bj + 1) d n D segs k E F' wr) :
    Calls Tryz.prog 51 #[.pointer (some ⟨bj, 0, none⟩), .pointer (some ⟨b7, 0, none⟩)] wr fun e w' => e = .returned (.int .i64 (E.writes [(1, headP 1 (c + ps.length))]).2) ∧ ∃ F2, DAt w' F2 d n (E.writes [(1, headP 1 (c + ps.length))]).1 ∧ Stp F' wr F2 w' := by
  have hlt : ∀ x, bj ≤ x → ¬ F x := fun x hx e => by have := P.nF x e; omega
  have h7 := P.h7
  rw [show (c : Int) + (ps.length : Int) = ((c + ps.length : Nat) : Int) by omega] at h7
  have j1 := M.get P.hb P.nj (tag_ne P.hb P.he (by decide))
  have k1 := M.get P.hj (hlt _ (Nat.le_refl _)) (tag_ne P.hj P.he (by decide))
  have k7 := M.get h7 (hlt _ P.g7) (tag_ne h7 P.he (by decide))
  have := P.room
  have := P.n4
  have := P.n3
  exact cl_head45 wr F' jb d n (c + ps.length) bj b7 E _ M.dat j1.1 rfl j1.2 k1.2 k7.2 (by omega) (by omega) (M.laid P.lay P.f6 (by have := P.j6; omega)) (Nat.le_trans M.pend (by decide)) k1.1 k7.1
theorem call46 {wo wr : World} {F F' : Nat → Prop} {jb d n c b6 b7 bj b8 k : Nat} {rv v8 v9 : Value} {ps : List (List UInt8)} {D E : PD} {segs : List (List (Nat × List UInt8))} (P : PRE wo F jb d n c b6 b7 bj b8 rv v8 v9 ps) (M : SW wo F (bj + 1) d n D segs k E F' wr) :
    Calls Tryz.prog 52 #[.pointer (some ⟨bj, 0, none⟩), .pointer (some ⟨b7, 0, none⟩)] wr fun e w' => e = .returned (.int .i64 (E.writes [(0, headP 0 (c + ps.length))]).2) ∧ ∃ F2, DAt w' F2 d n (E.writes [(0, headP 0 (c + ps.length))]).1 ∧ Stp F' wr F2 w' := by
  have hlt : ∀ x, bj ≤ x → ¬ F x := fun x hx e => by have := P.nF x e; omega
  have h7 := P.h7
  rw [show (c : Int) + (ps.length : Int) = ((c + ps.length : Nat) : Int) by omega] at h7
  have j1 := M.get P.hb P.nj (tag_ne P.hb P.he (by decide))
  have k1 := M.get P.hj (hlt _ (Nat.le_refl _)) (tag_ne P.hj P.he (by decide))
  have k7 := M.get h7 (hlt _ P.g7) (tag_ne h7 P.he (by decide))
  have := P.room
  have := P.n4
  have := P.n3
  exact cl_head46 wr F' jb d n (c + ps.length) bj b7 E _ M.dat j1.1 rfl j1.2 k1.2 k7.2 (by omega) (by omega) (M.laid P.lay P.f6 (by have := P.j6; omega)) (Nat.le_trans M.pend (by decide)) k1.1 k7.1
end Go.Proofs.YtihoomlaggihlaaGreatDoor
