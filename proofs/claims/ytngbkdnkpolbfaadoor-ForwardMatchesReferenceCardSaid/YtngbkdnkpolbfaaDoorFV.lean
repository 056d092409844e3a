/- The examples of the laws. Under the condition that the tables lie in memory as the program lays them. -/
import Derived.Test.YtngbkdnkpolbfaaDoorFU
import Derived.ArgAppend
namespace Go.Proofs.YtngbkdnkpolbfaaDoor
open Go.RowKit Go.Maps

theorem add_lit (b off j : Nat) : (⟨b, off, none⟩ : Addr).add j = ⟨b, off + j, none⟩ := by unfold Addr.add; split <;> simp_all
/-- the cells of orders -/
theorem flat_cells {w : World} {b off : Nat} {l : List Ord} (h : ∀ j (hj : j < l.length), At6 w b (off + j * 6) l[j]) : ∀ j u, (flatO l)[j]? = some u → w.cell? ((⟨b, off, none⟩ : Addr).add j) = some u := by
  intro j u hu
  have hj : j < (flatO l).length := by
    by_cases e : j < (flatO l).length
    · exact e
    · rw [List.getElem?_eq_none (by omega)] at hu; cases hu
  rw [flatO_len] at hj
  have hq : j / 6 < l.length := by omega
  obtain ⟨a0, a1, a2, a3, a4, a5⟩ := flatO_at l (j / 6) hq
  obtain ⟨c0, c1, c2, c3, c4, c5⟩ := h (j / 6) hq
  rw [add_lit]
  rcases (show j = j / 6 * 6 ∨ j = j / 6 * 6 + 1 ∨ j = j / 6 * 6 + 2 ∨ j = j / 6 * 6 + 3 ∨ j = j / 6 * 6 + 4 ∨ j = j / 6 * 6 + 5 by omega) with e | e | e | e | e | e
  · rw [e] at hu ⊢; rw [a0] at hu; injection hu with hu; rw [← hu]; exact c0
  · rw [e] at hu ⊢; rw [a1] at hu; injection hu with hu; rw [← hu]; exact c1
  · rw [e] at hu ⊢; rw [a2] at hu; injection hu with hu; rw [← hu]; exact c2
  · rw [e] at hu ⊢; rw [a3] at hu; injection hu with hu; rw [← hu]; exact c3
  · rw [e] at hu ⊢; rw [a4] at hu; injection hu with hu; rw [← hu]; exact c4
  · rw [e] at hu ⊢; rw [a5] at hu; injection hu with hu; rw [← hu]; exact c5
theorem flat_one (l : List Ord) : ∀ u ∈ flatO l, u.oneCell' = true := by
  intro u hu
  unfold flatO at hu
  obtain ⟨o, _, ho⟩ := List.mem_flatMap.1 hu
  simp at ho
  rcases ho with e | e | e | e | e | e <;> subst e <;> rfl
theorem RdO.nth {w : World} {A : Option Addr} {l : List Ord} (h : RdO w A l) (hne : l ≠ []) : ∃ b off, A = some ⟨b, off, none⟩ ∧ b < w.heap.size ∧ ∀ j (hj : j < l.length), At6 w b (off + j * 6) l[j] := by
  rcases h with h | h
  · exact absurd h hne
  · exact h
theorem own_rd {w : World} {base n : Nat} {v : Value} {l : List Ord} (h : w.ownsRow base 26 6 v n (flatO l)) : ∃ A c, v = .slice A l.length c ∧ n = l.length ∧ RdO w A l := by
  by_cases hl : l = []
  · subst hl
    have h0 : n = 0 := by have := h.1; simp [flatO] at this; omega
    subst h0
    obtain ⟨A, c, hv⟩ := own_len h
    exact ⟨A, c, hv, rfl, Or.inl rfl⟩
  · obtain ⟨hn, g, cap, hv, _, _, hlt, hc⟩ := own_at6 h hl
    exact ⟨_, cap, hv, hn, Or.inr ⟨g, 0, rfl, hlt, fun j hj => by rw [Nat.zero_add]; exact hc j hj⟩⟩
/-- two orders in a block -/
theorem RdO.two (w : World) (a b : Ord) : RdO (w.alloc (.cells #[.string a.id, .string a.pn, .string a.fr, .string a.to, .int .i64 a.pf, .int .i64 a.pu, .string b.id, .string b.pn, .string b.fr, .string b.to, .int .i64 b.pf, .int .i64 b.pu] 26)) (some ⟨w.heap.size, 0, none⟩) [a, b] := by
  refine Or.inr ⟨w.heap.size, 0, rfl, by simp, fun j hj => ?_⟩
  match j, hj with
  | 0, _ => refine ⟨?_, ?_, ?_, ?_, ?_, ?_⟩ <;> simp
  | 1, _ => refine ⟨?_, ?_, ?_, ?_, ?_, ?_⟩ <;> simp
  | j + 2, h => simp at h; omega
theorem RdO.one (w : World) (a : Ord) : RdO (w.alloc (.cells #[.string a.id, .string a.pn, .string a.fr, .string a.to, .int .i64 a.pf, .int .i64 a.pu] 26)) (some ⟨w.heap.size, 0, none⟩) [a] := by
  refine Or.inr ⟨w.heap.size, 0, rfl, by simp, fun j hj => ?_⟩
  match j, hj with
  | 0, _ => refine ⟨?_, ?_, ?_, ?_, ?_, ?_⟩ <;> simp
  | j + 1, h => simp at h
theorem RdS.made (w : World) (l : List ByteArray) : RdS (w.alloc (.cells (l.map Value.string).toArray 9)) (some ⟨w.heap.size, 0, none⟩) l := by
  refine Or.inr ⟨w.heap.size, 0, rfl, by simp, fun j hj => ?_⟩
  simp [hj]
theorem texts_at {A B : Option Addr} {c d n : Nat} {a : List ByteArray} (w : World) (h1 : RdS w A a) (h2 : RdS w B a) (hl : a.length ≤ 1000) (hn : a.length = n) :
    Calls Tryd.prog 20 #[.slice A n c, .slice B n d] w fun e w' => e = .returned (.bool true) ∧ Gr w w' := by
  subst hn; exact texts_same A B c d a w h1 h2 hl
/-- what Settle leaves, the way's names known -/
def SIn (x : List ByteArray) (n : Nat) (t : ByteArray) (w : World) (e : Ending) (w' : World) : Prop :=
  ∃ (A : Option Addr) (c : Nat), e = .returned (.tuple #[.string t, .slice A n c, .int .i64 0]) ∧ n ≤ c ∧ RdS w' A x ∧ Below w.heap.size w w'
theorem SIs.sin {way : List Ord} {x : List ByteArray} {n : Nat} {t : ByteArray} {w : World} {e : Ending} {w' : World} (h : SIs way t w e w') (hx : ids way = x) (hn : way.length = n) : SIn x n t w e w' := by
  subst hx hn; exact h
theorem small_ex {l : List Ord} (h : l.all (fun o => decide (o.id.size ≤ 1000 ∧ o.pn.size ≤ 1000 ∧ o.fr.size ≤ 1000 ∧ o.to.size ≤ 1000)) = true) : ∀ o ∈ l, Small o := fun o ho => by
  have k := of_decide_eq_true (List.all_eq_true.1 h o ho)
  exact k
theorem set_a (A : Option Addr) (c : Nat) (W : World) (hL : Laid W) (hr : RdO W A [ex1, ex2]) : Calls Tryd.prog 12 #[.slice A 2 c, .string annaT, .string ⟨#[100, 49]⟩, .int .i64 3] W (SIn [ex1.id, ex2.id] 2 ⟨#[100, 51]⟩ W) :=
  (settle_yes A c [ex1, ex2] annaT ⟨#[100, 49]⟩ 3 W hL hr (by decide) (small_ex (by decide)) ex_p2 (by kernel_rfl) (by kernel_rfl) (by decide) (by decide) (by decide) (by decide)).mono fun e w' h => (SPost.is ex_a e w' h).sin rfl rfl
theorem set_b (A : Option Addr) (c : Nat) (W : World) (hL : Laid W) (hr : RdO W A [ex1, ex2]) : Calls Tryd.prog 12 #[.slice A 2 c, .string ⟨#[101, 118, 97]⟩, .string ⟨#[100, 49]⟩, .int .i64 3] W (SIn [] 0 ⟨#[100, 49]⟩ W) :=
  (settle_yes A c [ex1, ex2] ⟨#[101, 118, 97]⟩ ⟨#[100, 49]⟩ 3 W hL hr (by decide) (small_ex (by decide)) ex_p2 (by kernel_rfl) (by kernel_rfl) (by decide) (by decide) (by decide) (by decide)).mono fun e w' h => (SPost.is ex_b e w' h).sin rfl rfl
theorem set_c (A : Option Addr) (c : Nat) (W : World) (hL : Laid W) (hr : RdO W A [ex1, ex2, ex3]) : Calls Tryd.prog 12 #[.slice A 3 c, .string annaT, .string ⟨#[100, 50]⟩, .int .i64 9] W (SIn [ex2.id, ex3.id, ex1.id] 3 ⟨#[100, 49]⟩ W) :=
  (settle_yes A c [ex1, ex2, ex3] annaT ⟨#[100, 50]⟩ 9 W hL hr (by decide) (small_ex (by decide)) ex_p (by kernel_rfl) (by kernel_rfl) (by decide) (by decide) (by decide) (by decide)).mono fun e w' h => (SPost.is ex_c e w' h).sin rfl rfl
theorem set_d (A : Option Addr) (c : Nat) (W : World) (hL : Laid W) (hr : RdO W A [ex1, ex2, ex3]) : Calls Tryd.prog 12 #[.slice A 3 c, .string annaT, .string ⟨#[100, 50]⟩, .int .i64 4] W (SIn [ex2.id] 1 ⟨#[100, 51]⟩ W) :=
  (settle_yes A c [ex1, ex2, ex3] annaT ⟨#[100, 50]⟩ 4 W hL hr (by decide) (small_ex (by decide)) ex_p (by kernel_rfl) (by kernel_rfl) (by decide) (by decide) (by decide) (by decide)).mono fun e w' h => (SPost.is ex_d e w' h).sin rfl rfl
/-- what is no order's text -/
theorem ex_m : Lib.countB (exT ++ ⟨#[32]⟩) ⟨#[32]⟩ = 7 := by kernel_rfl
theorem ex_sz : (exT ++ ⟨#[32]⟩ : ByteArray).size = 33 := by kernel_rfl
theorem seven_no {T : ByteArray} (hz : T.size = 33) (hc : Lib.countB T ⟨#[32]⟩ = 7) (W : World) (hL : LaidT W) : Calls Tryd.prog 16 #[.string T] W fun e w' => e = .returned (.tuple #[.agg (encO zeroO), .int .i64 5]) ∧ Below W.heap.size W w' := by
  refine (fparse_any T W (by omega) hL).mono ?_
  rintro e w' ⟨hb, ⟨o, ho, ht, _⟩ | ⟨_, he⟩⟩
  · have := (wds_otxt o ho _ ht).1
    omega
  · exact ⟨he, hb⟩
theorem ex_parse (W : World) (hL : LaidT W) : Calls Tryd.prog 16 #[.string (exT ++ ⟨#[32]⟩)] W fun e w' => e = .returned (.tuple #[.agg (encO zeroO), .int .i64 5]) ∧ Below W.heap.size W w' :=
  seven_no ex_sz ex_m W hL
theorem ex_text (W : World) (hL : Laid W) : Calls Tryd.prog 14 #[.agg (encO ex3)] W fun e w' => e = .returned (.tuple #[.string exT, .int .i64 0]) ∧ Below W.heap.size W w' := by
  have := otext_yes ex3 W hL ex_o
  rw [ex_t] at this
  exact this
theorem ex_yes (A : Option Addr) (c : Nat) (W : World) (hr : RdO W A [ex1, ex2, ex3]) : Calls Tryd.prog 18 #[.slice A 3 c] W fun e w' => e = .returned (.bool true) ∧ Below W.heap.size W w' := by
  have := proper_list A c [ex1, ex2, ex3] W hr (by decide) (small_ex (by decide))
  rw [ex_p] at this
  exact this
theorem ex_no (A : Option Addr) (c : Nat) (W : World) (hr : RdO W A [ex1, ex2, ex3, ex1]) : Calls Tryd.prog 18 #[.slice A 4 c] W fun e w' => e = .returned (.bool false) ∧ Below W.heap.size W w' := by
  have := proper_list A c [ex1, ex2, ex3, ex1] W hr (by decide) (small_ex (by decide))
  rw [ex_q] at this
  exact this
/-- orders that the call owns -/
def OwnO (w : World) (base g cap : Nat) (l : List Ord) : Prop := w.ownsRow base 26 6 (.slice (some ⟨g, 0, none⟩) l.length cap) l.length (flatO l)
theorem own_below {w w' : World} {base e size n : Nat} {v : Value} {xs : List Value} (h : w.ownsRow base e size v n xs) (hb : Below w.heap.size w w') : w'.ownsRow base e size v n xs := by
  refine ⟨h.1, ?_⟩
  rcases h.2 with h2 | ⟨g, cap, cur, hv, h1, hg, h3⟩
  · exact Or.inl h2
  · exact Or.inr ⟨g, cap, cur, hv, h1, (hb.block g (heap_lt hg)).trans hg, h3⟩
theorem OwnO.keep {w w' : World} {base g cap : Nat} {l : List Ord} (h : OwnO w base g cap l) (hb : Below w.heap.size w w') : OwnO w' base g cap l := own_below h hb
theorem OwnO.rd {w : World} {base g cap : Nat} {l : List Ord} (h : OwnO w base g cap l) : RdO w (some ⟨g, 0, none⟩) l := by
  obtain ⟨A, c, hv, _, hr⟩ := own_rd h
  injection hv with hv
  rw [hv]; exact hr
theorem OwnO.at6 {w : World} {base g cap : Nat} {l : List Ord} (h : OwnO w base g cap l) (j : Nat) (hj : j < l.length) : At6 w g (j * 6) l[j] := by
  obtain ⟨_, g', cap', hv, _, _, _, hc⟩ := own_at6 h (fun e => by rw [e] at hj; cases hj)
  injection hv with hv
  injection hv with hv
  injection hv with hv
  subst hv
  exact hc j hj
theorem own_form {w : World} {base n : Nat} {v : Value} {l : List Ord} (h : w.ownsRow base 26 6 v n (flatO l)) (hne : l ≠ []) : ∃ g cap, v = .slice (some ⟨g, 0, none⟩) l.length cap ∧ n = l.length ∧ base ≤ g ∧ OwnO w base g cap l := by
  obtain ⟨hn, g, cap, hv, _, hb, _, _⟩ := own_at6 h hne
  subst hn hv
  exact ⟨g, cap, rfl, rfl, hb, h⟩
/-- append to orders that the call owns, under a guard that holds -/
theorem wpList_append_ownG {P : Program} (w : World) {ops : Array Oper} {rest : List Oper} {o : Oper} {a : Act} {Q : Exit → Act → World → Prop} (hw : Region.wanted o (yielded ops a.tmps) = true) (s x : Operand) (t : TypeId)
    (ho : o.op = .call { callee := .builtin .append, args := #[s, x], argTypes := #[t, t] })
    (base : Nat) (e : TypeId) (i : TypeInfo) (z : Value) (size bytes : Nat) (ht : P.underlying t = some (.slice e)) (hi : P.info? e = some i) (hz : i.zero = some z)
    (hsize : i.size = size) (hby : i.bytes = bytes) (hzs : z.cells.size = size) (hsz : 0 < size)
    (v : Value) (n : Nat) (xs : List Value) (hs : a.eval s = v) (hown : w.ownsRow base e size v n xs)
    (ad : Addr) (m c : Nat) (news : List Value) (hx : a.eval x = .slice (some ad) m c) (hl : news.length = m * size) (hnews : ∀ j u, news[j]? = some u → w.cell? (ad.add j) = some u) (h1 : ∀ u ∈ news, u.oneCell' = true)
    (h63 : n + m ≤ maxLen) (hbytes : (n + m) * bytes ≤ 140737488355328) (hbase : base ≤ w.heap.size)
    (h : ∀ v' w', w'.ownsRow base e size v' (n + m) (xs ++ news) → w.grownBy w' v.ownBlock → wpList P ops Q rest (a.put o.dst v') w') : wpList P ops Q (o :: rest) a w :=
  wpList_step fun _ hK => by
    rw [if_pos hw]
    exact wp_append_own w s x t ho base e i z size bytes ht hi hz hsize hby hzs hsz v n xs hs hown ad m c news hx hl hnews h1 h63 hbytes hbase fun v' w' h2 h3 _ => hK _ _ (h v' w' h2 h3)
set_option maxHeartbeats 16000000 in
set_option maxRecDepth 100000 in
theorem head_any (w : World) (hL : LaidT w) : Calls Tryd.prog 9 #[] w fun e w' => e = .returned (.bool true) ∧ Below w.heap.size w w' := by
  have HL := Lib.hid hL
  clear hL
  go_enter Tryd.func9, Tryd.ntmps9
  go_wp2_with fail
  have T0 := Lib.hid (Below.refl w.heap.size w)
  refine (order_any _ _ _ _ _).mono ?_
  rintro e w1 ⟨rfl, hb⟩
  replace hb := hb.below
  have T1 := Lib.hid (T0.out.trans (hb.mono T0.out.size))
  clear T0
  clear hb
  go_wp2_with fail
  refine (order_any _ _ _ _ _).mono ?_
  rintro e w2 ⟨rfl, hb⟩
  replace hb := hb.below
  have T2 := Lib.hid (T1.out.trans (hb.mono T1.out.size))
  clear T1
  clear hb
  go_wp2_with fail
  have hb : Gr w2 (w2.alloc (.cells #[.string ⟨#[111, 49]⟩, .string annaT, .string ⟨#[100, 49]⟩, .string ⟨#[100, 50]⟩, .int .i64 0, .int .i64 (-1), .string ⟨#[111, 50]⟩, .string annaT, .string ⟨#[100, 50]⟩, .string ⟨#[100, 51]⟩, .int .i64 0, .int .i64 (-1)] 26)) := Gr.one _ _
  have T3 := Lib.hid (T2.out.trans (hb.below.mono T2.out.size))
  clear T2
  have R_3 : Hid (RdO (w2.alloc (.cells #[.string ⟨#[111, 49]⟩, .string annaT, .string ⟨#[100, 49]⟩, .string ⟨#[100, 50]⟩, .int .i64 0, .int .i64 (-1), .string ⟨#[111, 50]⟩, .string annaT, .string ⟨#[100, 50]⟩, .string ⟨#[100, 51]⟩, .int .i64 0, .int .i64 (-1)] 26)) (some ⟨w2.heap.size, 0, none⟩) [ex1, ex2]) := Lib.hid (RdO.two w2 ex1 ex2)
  clear hb
  generalize (w2.alloc (.cells #[.string ⟨#[111, 49]⟩, .string annaT, .string ⟨#[100, 49]⟩, .string ⟨#[100, 50]⟩, .int .i64 0, .int .i64 (-1), .string ⟨#[111, 50]⟩, .string annaT, .string ⟨#[100, 50]⟩, .string ⟨#[100, 51]⟩, .int .i64 0, .int .i64 (-1)] 26)) = w3 at *
  generalize w2.heap.size = b2 at *
  refine (set_a _ _ _ (HL.out.keep T3.out).1 R_3.out).mono ?_
  rintro e w4 ⟨A4, c4, rfl, hc4, hR, hb⟩
  have T4 := Lib.hid (T3.out.trans (hb.mono T3.out.size))
  have R_4 := Lib.hid (R_3.out.keep hb)
  clear T3 R_3
  clear hb
  have X_4 := Lib.hid (hR)
  clear hR
  go_wp2_with fail
  refine (set_b _ _ _ (HL.out.keep T4.out).1 R_4.out).mono ?_
  rintro e w5 ⟨A5, c5, rfl, hc5, hR, hb⟩
  have T5 := Lib.hid (T4.out.trans (hb.mono T4.out.size))
  have R_5 := Lib.hid (R_4.out.keep hb)
  have X_5 := Lib.hid (X_4.out.keep hb)
  clear T4 R_4 X_4
  clear hb
  clear hR
  go_wp2_with fail
  refine (order_any _ _ _ _ _).mono ?_
  rintro e w6 ⟨rfl, hb⟩
  replace hb := hb.below
  have T6 := Lib.hid (T5.out.trans (hb.mono T5.out.size))
  have R_6 := Lib.hid (R_5.out.keep hb)
  have X_6 := Lib.hid (X_5.out.keep hb)
  clear T5 R_5 X_5
  clear hb
  have HS6 := Lib.hid T6.out.size
  obtain ⟨i26, hi26, ha26, hb26, hc26⟩ := info_parts info26
  have HN := Lib.hid (fun j u (hu : (flatO [ex3])[j]? = some u) => news6 (w := w6) hu)
  obtain ⟨b, off, hA, _, hcell⟩ := (R_6.out).nth (by simp)
  have HO := Lib.hid (flat_cells hcell)
  rw [← Option.some.inj hA] at HO
  have HS := Lib.hid (show RdO w6 (some ⟨b2, 0, none⟩) [ex1, ex2] from R_6.out)
  clear hcell hA
  go_wp2_with (at_builtin; refine wpList_append_grows _ rfl (.tmp 36) (.tmp 38) 22 rfl 26 i26 _ 6 80 Tryd.underlying22 hi26 ha26 hb26 hc26 rfl (by decide) (some ⟨b2, 0, none⟩) 2 2 (flatO [ex1, ex2]) rfl (by intro h; cases h) rfl ?_ ⟨w6.heap.size, 0, none⟩ 1 1 (flatO [ex3]) rfl rfl HN.out (flat_one _) (by decide) (by unfold maxLen; omega) (by omega) ?_)
  case refine_1 => intro b' hb' j u hu; rw [← Option.some.inj hb']; exact cell_on (HO.out j u hu) _
  intro v' w7 hown hg
  have hb := ((Below.refl w6.heap.size w6).alloc (Nat.le_refl _) (.cells #[.string ⟨#[111, 51]⟩, .string annaT, .string ⟨#[100, 51]⟩, .string ⟨#[100, 49]⟩, .int .i64 5, .int .i64 (-1)] 26)).grown hg (by simp) (fun k hk => by cases hk)
  clear R_6
  clear HO HS HN hg hi26 ha26 hb26 hc26
  have T7 := Lib.hid (T6.out.trans (hb.mono T6.out.size))
  have X_7 := Lib.hid (X_6.out.keep hb)
  clear T6 X_6
  obtain ⟨g, cap, rfl, _, hgb, hO⟩ := own_form (l := [ex1, ex2, ex3]) hown (by simp)
  have O_7 := Lib.hid (hO)
  have HGB := Lib.hid hgb
  clear hown hO hb hgb
  go_wp2_with fail
  refine (set_c _ _ _ (HL.out.keep T7.out).1 O_7.out.rd).mono ?_
  rintro e w8 ⟨A9, c9, rfl, hc9, hR, hb⟩
  have T8 := Lib.hid (T7.out.trans (hb.mono T7.out.size))
  have X_8 := Lib.hid (X_7.out.keep hb)
  have O_8 := Lib.hid (O_7.out.keep hb)
  clear T7 X_7 O_7
  clear hb
  have Y_8 := Lib.hid (hR)
  clear hR
  go_wp2_with fail
  refine (set_d _ _ _ (HL.out.keep T8.out).1 O_8.out.rd).mono ?_
  rintro e w9 ⟨A12, c12, rfl, hc12, hR, hb⟩
  have T9 := Lib.hid (T8.out.trans (hb.mono T8.out.size))
  have X_9 := Lib.hid (X_8.out.keep hb)
  have O_9 := Lib.hid (O_8.out.keep hb)
  have Y_9 := Lib.hid (Y_8.out.keep hb)
  clear T8 X_8 O_8 Y_8
  clear hb
  have Z_9 := Lib.hid (hR)
  clear hR
  obtain ⟨q0, q1, q2, q3, q4, q5⟩ := O_9.out.at6 2 (by simp)
  simp only [List.getElem_cons_succ, List.getElem_cons_zero] at q0 q1 q2 q3 q4 q5
  go_wp2_with fail
  clear q0 q1 q2 q3 q4 q5
  refine (ex_text _ (HL.out.keep T9.out).1).mono ?_
  rintro e w10 ⟨rfl, hb⟩
  have T10 := Lib.hid (T9.out.trans (hb.mono T9.out.size))
  have X_10 := Lib.hid (X_9.out.keep hb)
  have O_10 := Lib.hid (O_9.out.keep hb)
  have Y_10 := Lib.hid (Y_9.out.keep hb)
  have Z_10 := Lib.hid (Z_9.out.keep hb)
  clear T9 X_9 O_9 Y_9 Z_9
  clear hb
  go_wp2_with fail
  refine (ex_parse _ (HL.out.keep T10.out)).mono ?_
  rintro e w11 ⟨rfl, hb⟩
  have T11 := Lib.hid (T10.out.trans (hb.mono T10.out.size))
  have X_11 := Lib.hid (X_10.out.keep hb)
  have O_11 := Lib.hid (O_10.out.keep hb)
  have Y_11 := Lib.hid (Y_10.out.keep hb)
  have Z_11 := Lib.hid (Z_10.out.keep hb)
  clear T10 X_10 O_10 Y_10 Z_10
  clear hb
  go_wp2_with fail
  have hb : Gr w11 ((w11.alloc (.cells #[.string zeroO.id, .string zeroO.pn, .string zeroO.fr, .string zeroO.to, .int .i64 zeroO.pf, .int .i64 zeroO.pu] 26)).alloc (.cells #[.string ⟨#[111, 49]⟩, .string ⟨#[111, 50]⟩] 9)) := (Gr.one _ _).alloc _
  have T12 := Lib.hid (T11.out.trans (hb.below.mono T11.out.size))
  have X_12 := Lib.hid (X_11.out.keep hb.below)
  have O_12 := Lib.hid (O_11.out.keep hb.below)
  have Y_12 := Lib.hid (Y_11.out.keep hb.below)
  have Z_12 := Lib.hid (Z_11.out.keep hb.below)
  clear T11 X_11 O_11 Y_11 Z_11
  have V_12 : Hid (RdS ((w11.alloc (.cells #[.string zeroO.id, .string zeroO.pn, .string zeroO.fr, .string zeroO.to, .int .i64 zeroO.pf, .int .i64 zeroO.pu] 26)).alloc (.cells #[.string ⟨#[111, 49]⟩, .string ⟨#[111, 50]⟩] 9)) (some ⟨w11.heap.size + 1, 0, none⟩) [⟨#[111, 49]⟩, ⟨#[111, 50]⟩]) := Lib.hid (by simpa using RdS.made (w11.alloc (.cells #[.string zeroO.id, .string zeroO.pn, .string zeroO.fr, .string zeroO.to, .int .i64 zeroO.pf, .int .i64 zeroO.pu] 26)) [⟨#[111, 49]⟩, ⟨#[111, 50]⟩])
  clear hb
  generalize ((w11.alloc (.cells #[.string zeroO.id, .string zeroO.pn, .string zeroO.fr, .string zeroO.to, .int .i64 zeroO.pf, .int .i64 zeroO.pu] 26)).alloc (.cells #[.string ⟨#[111, 49]⟩, .string ⟨#[111, 50]⟩] 9)) = w12 at *
  refine (texts_at _ X_12.out V_12.out (by decide) rfl).mono ?_
  rintro e w13 ⟨rfl, hb⟩
  replace hb := hb.below
  have T13 := Lib.hid (T12.out.trans (hb.mono T12.out.size))
  have X_13 := Lib.hid (X_12.out.keep hb)
  have O_13 := Lib.hid (O_12.out.keep hb)
  have Y_13 := Lib.hid (Y_12.out.keep hb)
  have Z_13 := Lib.hid (Z_12.out.keep hb)
  have V_13 := Lib.hid (V_12.out.keep hb)
  clear T12 X_12 O_12 Y_12 Z_12 V_12
  clear hb
  clear X_13
  clear V_13
  go_wp2_with fail
  have hb : Gr w13 (w13.alloc (.cells #[.string ⟨#[111, 50]⟩, .string ⟨#[111, 51]⟩, .string ⟨#[111, 49]⟩] 9)) := Gr.one _ _
  have T14 := Lib.hid (T13.out.trans (hb.below.mono T13.out.size))
  have O_14 := Lib.hid (O_13.out.keep hb.below)
  have Y_14 := Lib.hid (Y_13.out.keep hb.below)
  have Z_14 := Lib.hid (Z_13.out.keep hb.below)
  clear T13 O_13 Y_13 Z_13
  have V_14 : Hid (RdS (w13.alloc (.cells #[.string ⟨#[111, 50]⟩, .string ⟨#[111, 51]⟩, .string ⟨#[111, 49]⟩] 9)) (some ⟨w13.heap.size, 0, none⟩) [⟨#[111, 50]⟩, ⟨#[111, 51]⟩, ⟨#[111, 49]⟩]) := Lib.hid (RdS.made w13 [⟨#[111, 50]⟩, ⟨#[111, 51]⟩, ⟨#[111, 49]⟩])
  clear hb
  generalize (w13.alloc (.cells #[.string ⟨#[111, 50]⟩, .string ⟨#[111, 51]⟩, .string ⟨#[111, 49]⟩] 9)) = w14 at *
  refine (texts_at _ Y_14.out V_14.out (by decide) rfl).mono ?_
  rintro e w15 ⟨rfl, hb⟩
  replace hb := hb.below
  have T15 := Lib.hid (T14.out.trans (hb.mono T14.out.size))
  have O_15 := Lib.hid (O_14.out.keep hb)
  have Y_15 := Lib.hid (Y_14.out.keep hb)
  have Z_15 := Lib.hid (Z_14.out.keep hb)
  have V_15 := Lib.hid (V_14.out.keep hb)
  clear T14 O_14 Y_14 Z_14 V_14
  clear hb
  clear Y_15
  clear V_15
  go_wp2_with fail
  have hb : Gr w15 (w15.alloc (.cells #[.string ⟨#[111, 50]⟩] 9)) := Gr.one _ _
  have T16 := Lib.hid (T15.out.trans (hb.below.mono T15.out.size))
  have O_16 := Lib.hid (O_15.out.keep hb.below)
  have Z_16 := Lib.hid (Z_15.out.keep hb.below)
  clear T15 O_15 Z_15
  have V_16 : Hid (RdS (w15.alloc (.cells #[.string ⟨#[111, 50]⟩] 9)) (some ⟨w15.heap.size, 0, none⟩) [⟨#[111, 50]⟩]) := Lib.hid (RdS.made w15 [⟨#[111, 50]⟩])
  clear hb
  generalize (w15.alloc (.cells #[.string ⟨#[111, 50]⟩] 9)) = w16 at *
  refine (texts_at _ Z_16.out V_16.out (by decide) rfl).mono ?_
  rintro e w17 ⟨rfl, hb⟩
  replace hb := hb.below
  have T17 := Lib.hid (T16.out.trans (hb.mono T16.out.size))
  have O_17 := Lib.hid (O_16.out.keep hb)
  have Z_17 := Lib.hid (Z_16.out.keep hb)
  have V_17 := Lib.hid (V_16.out.keep hb)
  clear T16 O_16 Z_16 V_16
  clear hb
  clear Z_17
  clear V_17
  go_wp2_with fail
  refine (ex_yes _ _ _ O_17.out.rd).mono ?_
  rintro e w18 ⟨rfl, hb⟩
  have T18 := Lib.hid (T17.out.trans (hb.mono T17.out.size))
  have O_18 := Lib.hid (O_17.out.keep hb)
  clear T17 O_17
  clear hb
  obtain ⟨q0, q1, q2, q3, q4, q5⟩ := O_18.out.at6 0 (by simp)
  simp only [List.getElem_cons_zero, Nat.zero_mul] at q0 q1 q2 q3 q4 q5
  obtain ⟨i26, hi26, ha26, hb26, hc26⟩ := info_parts info26
  have HN := Lib.hid (fun j u (hu : (flatO [ex1])[j]? = some u) => news6 (w := w18) hu)
  go_wp2_with (at_builtin; refine wpList_append_ownG _ (by rfl) (.tmp 137) (.tmp 141) 22 rfl (w6.heap.size + 1) 26 i26 _ 6 80 Tryd.underlying22 hi26 ha26 hb26 hc26 rfl (by decide) (.slice (some ⟨g, 0, none⟩) 3 cap) 3 (flatO [ex1, ex2, ex3]) rfl (own_below O_18.out (Gr.one _ _).below) ⟨w18.heap.size, 0, none⟩ 1 1 (flatO [ex1]) rfl rfl HN.out (flat_one _) (by unfold maxLen; omega) (by omega) ?_ ?_)
  case refine_1 => have := (O_18.out).lt g rfl; simp; omega
  intro v' w19 hown hg
  have hbb := (T18.out.alloc (T18.out.size) (.cells #[.string ⟨#[111, 49]⟩, .string annaT, .string ⟨#[100, 49]⟩, .string ⟨#[100, 50]⟩, .int .i64 0, .int .i64 (-1)] 26)).grown hg (by have := T18.out.size; simp; omega) (fun k hk => by have hk2 : g = k := (by simpa [Value.ownBlock] using hk); have := HGB.out; have := HS6.out; omega)
  obtain ⟨g', cap', rfl, _, _, hO⟩ := own_form (l := [ex1, ex2, ex3, ex1]) hown (by simp)
  have HO := Lib.hid hO
  have HBB := Lib.hid hbb
  clear hown hg hO hbb hi26 ha26 hb26 hc26 HN q0 q1 q2 q3 q4 q5
  clear O_18
  go_wp2_with fail
  refine (ex_no _ _ _ HO.out.rd).mono ?_
  rintro e w20 ⟨rfl, hb⟩
  have HE := Lib.hid (HBB.out.trans (hb.mono HBB.out.size))
  clear hb
  go_wp2_with fail
  go_ret
  exact ⟨rfl, HE.out⟩
end Go.Proofs.YtngbkdnkpolbfaaDoor
