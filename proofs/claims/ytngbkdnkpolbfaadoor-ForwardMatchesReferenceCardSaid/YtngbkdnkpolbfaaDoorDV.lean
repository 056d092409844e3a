/- The contract of Parse. Under the condition that the tables lie in memory as the program lays them. -/
import Derived.Test.YtngbkdnkpolbfaaDoorDU
import Derived.BigQuiet
import Derived.Lib.BufferMore
namespace Go.Proofs.YtngbkdnkpolbfaaDoor
open Go.RowKit
theorem splitK_le (sep : List UInt8) : ∀ (k : Nat) (s p : List UInt8), p ∈ Lib.splitK sep 0 k s → p.length ≤ s.length
  | 0, s, p, h => by
    simp [Lib.splitK] at h
    subst h
    exact Nat.le_refl _
  | k + 1, s, p, h => by
    unfold Lib.splitK at h
    split at h
    · simp at h
      subst h
      exact Nat.le_refl _
    · rcases List.mem_cons.1 h with rfl | h
      · rw [List.length_take]; omega
      · have := splitK_le sep k _ p h
        rw [List.length_drop] at this
        omega
theorem part_le (sep s p : ByteArray) (k : Nat) (h : p ∈ Lib.splitB sep 0 k s) : p.size ≤ s.size := by
  have h1 : p.data.toList ∈ (Lib.splitB sep 0 k s).map (·.data.toList) := List.mem_map_of_mem h
  rw [Lib.splitB_data] at h1
  exact splitK_le _ _ _ _ h1
theorem mkV_day (y m d : Int) : 0 ≤ mkV y m d ∧ mkV y m d ≤ 100000 := by
  unfold mkV
  by_cases h : mkE y m d = 0
  · rw [if_pos h]
    unfold mkE at h
    split at h
    · omega
    · split at h
      · omega
      · split at h
        · omega
        · rename_i h3
          simp [okN] at h3
          exact h3
  · rw [if_neg h]; omega
/-- a number that Atoi may have left for a part -/
def Num (x : ByteArray) (v : Int) : Prop := ∀ n, Lib.atoiAll x.data.toList = .ok n → v = n
/-- the text of a day is read as that day -/
theorem read_txt (s x y z : ByteArray) (v0 v1 v2 : Int) (hp : prt s = [x, y, z]) (h0 : Num x v0) (h1 : Num y v1) (h2 : Num z v2) (a : Int) (a0 : 0 ≤ a) (a1 : a ≤ 100000) (hs : s.data.toList = txt a) :
    mkE v0 v1 v2 = 0 ∧ mkV v0 v1 v2 = a := by
  obtain ⟨_, x', y', z', hp', hx, hy, hz⟩ := prt_txt a a0 a1 s hs
  rw [hp] at hp'
  simp only [List.cons.injEq, and_true] at hp'
  obtain ⟨rfl, rfl, rfl⟩ := hp'
  rw [h0 _ hx, h1 _ hy, h2 _ hz]
  exact mk_split a a0 a1
theorem two_alloc (w : World) (o1 o2 : Obj) : ((w.alloc o1).alloc o2).heap[w.heap.size]? = some o1 ∧ ((w.alloc o1).alloc o2).heap[w.heap.size + 1]? = some o2 := by
  show ((w.heap.push o1).push o2)[w.heap.size]? = _ ∧ ((w.heap.push o1).push o2)[w.heap.size + 1]? = _
  constructor
  · rw [Array.getElem?_push, if_neg (by rw [Array.size_push]; omega), Array.getElem?_push, if_pos rfl]
  · rw [Array.getElem?_push, if_pos (by rw [Array.size_push])]
/-- what Parse leaves -/
def PPost (s : ByteArray) (w : World) (e : Ending) (w' : World) : Prop :=
  Below w.heap.size w w' ∧ ((∃ a : Int, 0 ≤ a ∧ a ≤ 100000 ∧ s.data.toList = txt a ∧ e = .returned (.tuple #[.int .i64 a, .int .i64 0])) ∨ ((∀ a : Int, 0 ≤ a → a ≤ 100000 → s.data.toList ≠ txt a) ∧ e = .returned (.tuple #[.int .i64 0, .int .i64 5])))
/-- what the loop of Parse has made of the first k parts -/
def DRel (w : World) (x y z : ByteArray) (k : Nat) (wr : World) : Prop :=
  ∃ v0 v1 v2 : Int, wr.heap[w.heap.size]? = some (.cells #[.string x, .string y, .string z] 9 (0, 0)) ∧ wr.heap[w.heap.size + 1]? = some (.cells #[.int .i64 v0, .int .i64 v1, .int .i64 v2] 81 (0, 0)) ∧ Below w.heap.size w wr ∧ (0 < k → Num x v0) ∧ (1 < k → Num y v1) ∧ (2 < k → Num z v2)
theorem heap_lt {w : World} {b : Nat} {o : Obj} (h : w.heap[b]? = some o) : b < w.heap.size := by
  by_cases e : b < w.heap.size
  · exact e
  · rw [Array.getElem?_eq_none (by omega)] at h; cases h
theorem three0 {w : World} {b : Nat} {t : TypeId} {x y z : Value} (h : w.heap[b]? = some (.cells #[x, y, z] t (0, 0))) : w.cell? ⟨b, 0, none⟩ = some x ∧ w.cell? ⟨b, 1, none⟩ = some y ∧ w.cell? ⟨b, 2, none⟩ = some z := by
  simp [World.cell?, h]
theorem three_fr {w : World} {b : Nat} {t : TypeId} {cs : Array Value} (h : w.heap[b]? = some (.cells cs t (0, 0))) (k : Nat) : w.frozen? ⟨b, k, none⟩ = false := by
  simp [World.frozen?, h]
set_option maxHeartbeats 8000000 in
set_option maxRecDepth 100000 in
theorem parse_any (s : ByteArray) (w : World) (hs : s.size ≤ 300) (hL : LaidT w) : Calls Tryd.prog 37 #[.string s] w (PPost s w) := by
  have mixed : Tryd.prog.follows .mixedOrders = true := by kernel_rfl
  have HL := Lib.hid hL
  clear hL
  have S1 := split_any s w hs HL.out
  go_enter Tryd.func37, Tryd.ntmps37
  go_wp2_with fail
  refine S1.mono ?_
  clear S1
  rintro e w1 ⟨rfl, hw1⟩
  by_cases hc : Lib.countB s ⟨#[45]⟩ = 2
  case neg =>
    have hd : ((Lib.countB s ⟨#[45]⟩ : Int) + 1 == 3) = false := by
      rw [beq_eq_false_iff_ne]; omega
    have HN : Hid (PPost s w (.returned (.tuple #[.int .i64 0, .int .i64 5])) w1) :=
      ⟨by rw [hw1]; exact (Below.refl _ _).alloc (Nat.le_refl _) _, Or.inr ⟨fun a a0 a1 h => hc (prt_txt a a0 a1 s h).1, rfl⟩⟩
    clear hw1 hc
    go_wp2_with fail
    go_ret2
    exact HN.out
  have hl := Lib.splitB_all ⟨#[45]⟩ (by decide) 0 2 s hc
  have hle := part_le ⟨#[45]⟩ s
  rw [hc]
  obtain ⟨x, y, z, hq⟩ : ∃ x y z, Lib.splitB ⟨#[45]⟩ 0 2 s = [x, y, z] := by
    match hq : Lib.splitB ⟨#[45]⟩ 0 2 s, hl with
    | [x, y, z], _ => exact ⟨x, y, z, rfl⟩
  have hp : prt s = [x, y, z] := by unfold prt; rw [hc, hq]
  have HPS := Lib.hid hp
  have hsx : x.size ≤ 300 := Nat.le_trans (hle x 2 (by rw [hq]; simp)) hs
  have hsy : y.size ≤ 300 := Nat.le_trans (hle y 2 (by rw [hq]; simp)) hs
  have hsz : z.size ≤ 300 := Nat.le_trans (hle z 2 (by rw [hq]; simp)) hs
  rw [hp] at hw1
  clear hp hq hle hl hc
  go_wp2_with fail
  go_loopw [19] (fun i wr => ∃ k : Nat, k ≤ 3 ∧ i = .int .i64 k ∧ Hid (DRel w x y z k wr)) (fun i _ => 3 - (intOf i).toNat)
  case atStart => exact ⟨0, Nat.zero_le _, rfl, 0, 0, 0, (two_alloc _ _ _).1, (two_alloc _ _ _).2, ((Below.refl _ _).alloc (Nat.le_refl _) _).alloc (by simp) _, fun h => absurd h (by omega), fun h => absurd h (by omega), fun h => absurd h (by omega)⟩
  case round =>
    obtain ⟨k, hk, rfl, hV⟩ := hrel
    obtain ⟨v0, v1, v2, hP, hQ, hB, n0, n1, n2⟩ := hV.out
    clear hV
    obtain ⟨p0, p1, p2⟩ := three0 hP
    obtain ⟨q0, q1, q2⟩ := three0 hQ
    have HP := Lib.hid hP
    have HQ := Lib.hid hQ
    have HB := Lib.hid hB
    have HN0 := Lib.hid n0
    have HN1 := Lib.hid n1
    have HN2 := Lib.hid n2
    clear hP hQ hB n0 n1 n2
    match k, hk with
    | 0, _ =>
      go_wp2_with fail
      refine (atoi_any x _ hsx (HL.out.keep HB.out)).mono ?_
      rintro e w2 ⟨v, ev, rfl, hv, hb2⟩
      have NV : Hid (Num x v) := hv
      have P2 := Lib.hid ((hb2.block _ (heap_lt HP.out)).trans HP.out)
      have Q2 := Lib.hid ((hb2.block _ (heap_lt HQ.out)).trans HQ.out)
      have B2 := Lib.hid (HB.out.trans (hb2.mono HB.out.size))
      clear hv hb2 q0 q1 q2 p0 p1 p2
      obtain ⟨q0, q1, q2⟩ := three0 Q2.out
      have fr := three_fr Q2.out 0
      go_wp2_with fail
      refine ⟨⟨1, by omega, rfl, v, v1, v2, ?_, ?_, B2.out.setCell (Nat.le_succ _) _, fun _ => NV.out, fun h => absurd h (by omega), fun h => absurd h (by omega)⟩, by decide⟩
      · rw [Below.heap_setCell _ _ _ _ (by simp)]; exact P2.out
      · rw [Lib.heap_setCell_same Q2.out]; rfl
    | 1, _ =>
      go_wp2_with fail
      refine (atoi_any y _ hsy (HL.out.keep HB.out)).mono ?_
      rintro e w2 ⟨v, ev, rfl, hv, hb2⟩
      have NV : Hid (Num y v) := hv
      have P2 := Lib.hid ((hb2.block _ (heap_lt HP.out)).trans HP.out)
      have Q2 := Lib.hid ((hb2.block _ (heap_lt HQ.out)).trans HQ.out)
      have B2 := Lib.hid (HB.out.trans (hb2.mono HB.out.size))
      clear hv hb2 q0 q1 q2 p0 p1 p2
      obtain ⟨q0, q1, q2⟩ := three0 Q2.out
      have fr := three_fr Q2.out 1
      go_wp2_with fail
      refine ⟨⟨2, by omega, rfl, v0, v, v2, ?_, ?_, B2.out.setCell (Nat.le_succ _) _, fun _ => HN0.out (by omega), fun _ => NV.out, fun h => absurd h (by omega)⟩, by decide⟩
      · rw [Below.heap_setCell _ _ _ _ (by simp)]; exact P2.out
      · rw [Lib.heap_setCell_same Q2.out]; rfl
    | 2, _ =>
      go_wp2_with fail
      refine (atoi_any z _ hsz (HL.out.keep HB.out)).mono ?_
      rintro e w2 ⟨v, ev, rfl, hv, hb2⟩
      have NV : Hid (Num z v) := hv
      have P2 := Lib.hid ((hb2.block _ (heap_lt HP.out)).trans HP.out)
      have Q2 := Lib.hid ((hb2.block _ (heap_lt HQ.out)).trans HQ.out)
      have B2 := Lib.hid (HB.out.trans (hb2.mono HB.out.size))
      clear hv hb2 q0 q1 q2 p0 p1 p2
      obtain ⟨q0, q1, q2⟩ := three0 Q2.out
      have fr := three_fr Q2.out 2
      go_wp2_with fail
      refine ⟨⟨3, by omega, rfl, v0, v1, v, ?_, ?_, B2.out.setCell (Nat.le_succ _) _, fun _ => HN0.out (by omega), fun _ => HN1.out (by omega), fun _ => NV.out⟩, by decide⟩
      · rw [Below.heap_setCell _ _ _ _ (by simp)]; exact P2.out
      · rw [Lib.heap_setCell_same Q2.out]; rfl
    | 3, _ =>
      have RD := Lib.hid (read_txt s x y z v0 v1 v2 HPS.out (HN0.out (by omega)) (HN1.out (by omega)) (HN2.out (by omega)))
      have MD := Lib.hid (mkV_day v0 v1 v2)
      go_wp2_with fail
      refine (make_any v0 v1 v2 _ (HL.out.keep HB.out).1.1).mono ?_
      rintro e w2 ⟨rfl, rfl⟩
      go_wp2_with fail
      refine (text_yes (mkV v0 v1 v2) _ (HL.out.keep HB.out).1 MD.out.1 MD.out.2).mono ?_
      rintro e w2 ⟨rfl, hb2⟩
      have B2 := Lib.hid (HB.out.trans (hb2.mono HB.out.size))
      clear hb2
      by_cases hE : mkE v0 v1 v2 = 0
      · have HE := Lib.hid hE
        go_wp2_with fail
        · rename_i hne
          go_ret2
          refine ⟨B2.out, Or.inr ⟨fun a a0 a1 h => ?_, rfl⟩⟩
          obtain ⟨_, h2⟩ := RD.out a a0 a1 h
          rw [h2, ← h, ByteArray.toList_eq] at hne
          simp at hne
        · rename_i heq
          go_ret2
          refine ⟨B2.out, Or.inl ⟨_, MD.out.1, MD.out.2, ?_, rfl⟩⟩
          rw [ByteArray.toList_eq] at heq
          have h3 : txt (mkV v0 v1 v2) = s.data.toList := by simpa using heq
          exact h3.symm
      · have HE := Lib.hid hE
        go_wp2_with fail
        go_ret2
        refine ⟨B2.out, Or.inr ⟨fun a a0 a1 h => HE.out (RD.out a a0 a1 h).1, rfl⟩⟩
    | k + 4, h => omega
end Go.Proofs.YtngbkdnkpolbfaaDoor
