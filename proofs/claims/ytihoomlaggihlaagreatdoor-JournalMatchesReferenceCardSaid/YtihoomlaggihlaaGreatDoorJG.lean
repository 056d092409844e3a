/- The contract of the disk's settle. Under no condition. -/
import Derived.Test.YtihoomlaggihlaaGreatDoorJF
namespace Go.Proofs.YtihoomlaggihlaaGreatDoor
open Go.RowKit

/-- text t at the head of sector i -/
def putB (st : List UInt8) (i : Nat) (t : List UInt8) : List UInt8 := st.take (64 * i) ++ t ++ st.drop (64 * i + t.length)
def settleB (st : List UInt8) (l : List (Nat × List UInt8)) : List UInt8 := l.foldl (fun s p => putB s p.1 p.2) st
theorem putB_length {st t : List UInt8} {i n : Nat} (h : st.length = 64 * n) (hi : i < n) (ht : t.length ≤ 64) : (putB st i t).length = 64 * n := by
  simp [putB]; omega
theorem bytesV_put (st t : List UInt8) (i : Nat) : bytesV (putB st i t) = (bytesV st).take (64 * i) ++ bytesV t ++ (bytesV st).drop (64 * i + t.length) := by
  simp [bytesV, putB]
theorem settleB_length {n : Nat} : ∀ (l : List (Nat × List UInt8)) (st : List UInt8), st.length = 64 * n → (∀ p ∈ l, p.1 < n ∧ p.2.length ≤ 64) → (settleB st l).length = 64 * n
  | [], _, h, _ => h
  | p :: r, st, h, hp => settleB_length r (putB st p.1 p.2) (putB_length h (hp p (by simp)).1 (hp p (by simp)).2) (fun q hq => hp q (by simp [hq]))
theorem settleB_snoc (st : List UInt8) (l : List (Nat × List UInt8)) (k : Nat) (hk : k < l.length) : settleB st (l.take (k + 1)) = putB (settleB st (l.take k)) l[k].1 l[k].2 := by
  unfold settleB
  rw [List.take_add_one, List.foldl_append, List.getElem?_eq_getElem hk]
  rfl
/-- what settle has made of the first k pending writes -/
structure SRel (w : World) (d sb n : Nat) (qv av : Value) (off : Bool) (st : List UInt8) (l : List (Nat × List UInt8)) (k : Nat) (wr : World) : Prop where
  db : DB wr d sb n qv off av
  bytes : wr.heap[sb]? = some (.cells (bytesV (settleB st (l.take k))).toArray 5 (0, 0))
  out : Out (· = sb) w wr
/-- pending writes in a row -/
def QAt (w : World) (a : Option Addr) (sb : Nat) (l : List (Nat × List UInt8)) : Prop := ∀ k (hk : k < l.length), ∃ q cs, a = some ⟨q, 0, none⟩ ∧ q ≠ sb ∧ w.heap[q]? = some (.cells cs 88 (0, 0)) ∧ cs[k * 3]? = some (.int .i64 ((l[k].1 : Int) * 64)) ∧ cs[k * 3 + 1]? = some (.int .i64 (((l[k].1 : Int) + 1) * 64)) ∧ cs[k * 3 + 2]? = some (.string ⟨l[k].2.toArray⟩)

set_option maxHeartbeats 4000000 in
set_option maxRecDepth 100000 in
theorem settle_any (w : World) (d sb n : Nat) (qv av : Value) (off : Bool) (a : Option Addr) (c : Nat) (st : List UInt8) (l : List (Nat × List UInt8)) (h : DB w d sb n qv off av) (hds : d ≠ sb) (hs : w.heap[sb]? = some (.cells (bytesV st).toArray 5 (0, 0))) (hl : st.length = 64 * n) (hp : ∀ p ∈ l, p.1 < n ∧ p.2.length ≤ 64) (hq : QAt w a sb l) (hm : l.length ≤ 100000) :
    Calls Tryz.prog 61 #[.pointer (some ⟨d, 0, none⟩), .slice a l.length c] w fun e w' => e = .returned (.tuple #[]) ∧ w'.heap[sb]? = some (.cells (bytesV (settleB st l)).toArray 5 (0, 0)) ∧ Out (· = sb) w w' := by
  have HR := Lib.hid (SRel.mk (qv := qv) (av := av) (off := off) (st := st) (l := l) (k := 0) h (by simpa [settleB] using hs) (Out.refl _ w))
  have HP := Lib.hid hp
  have HQ := Lib.hid hq
  have HL := Lib.hid hl
  clear h hs hq hp hl
  go_enter Tryz.func61, Tryz.ntmps61
  go_wp2_with fail
  obtain ⟨wo, rfl⟩ : ∃ wo : World, wo = w := ⟨_, rfl⟩
  go_loopw [8] (fun i wr => ∃ k : Nat, k ≤ l.length ∧ i = .int .i64 k ∧ Hid (SRel wo d sb n qv av off st l k wr)) (fun i _ => l.length - (intOf i).toNat)
  case atStart => exact ⟨0, by omega, rfl, HR⟩
  case round =>
    clear HR
    obtain ⟨k, hk, rfl, M⟩ := hrel
    by_cases hkl : k < l.length
    · obtain ⟨q, cs, rfl, hqs, hh, q0, q1, q2⟩ := HQ.out k hkl
      obtain ⟨h1, h2⟩ := HP.out l[k] (List.getElem_mem hkl)
      have hh' := M.out.out.heap hh hqs
      have r0 := cell_at hh' q0
      have r1 := cell_at hh' q1
      have r2 := cell_at hh' q2
      clear hh hh' q0 q1 q2
      have hk0 : (0 : Int) ≤ (k : Int) := Int.natCast_nonneg _
      have hk1 : (k : Int) < (l.length : Int) := by omega
      go_wp2_with fail
      have HB := Lib.hid (Gr.one wr (.cells #[.int .i64 ((l[k].1 : Int) * 64), .int .i64 (((l[k].1 : Int) + 1) * 64), .string ⟨l[k].2.toArray⟩] 88)).below
      have hlen : (settleB st (l.take k)).length = 64 * n := settleB_length _ _ HL.out (fun p hp => HP.out p (List.mem_of_mem_take hp))
      refine (set_any _ d sb n l[k].1 qv av off (bytesV (settleB st (l.take k))) l[k].2 (M.out.db.keep HB.out) ((HB.out.block _ (heap_lt M.out.bytes)).trans M.out.bytes) (by rw [bytesV_length, hlen]) h1 h2).mono ?_
      rintro e w2 ⟨rfl, hb, ho⟩
      have M2 : Hid (SRel wo d sb n qv av off st l (k + 1) w2) := Lib.hid ⟨ho.heap (M.out.db.keep HB.out) hds, by rw [settleB_snoc st l k hkl, bytesV_put]; exact hb, (M.out.out.trans (Out.of_below (F := (· = sb)) HB.out) (fun _ e => Or.inl e)).trans ho (fun _ e => Or.inl e)⟩
      clear hb ho HB M r0 r1 r2
      go_wp2_with fail
      go_roundw
      case rel => exact ⟨k + 1, by omega, by go_num, M2⟩
      case measure => simp [intOf]; omega
    · obtain rfl : k = l.length := by omega
      go_wp2_with fail
      go_end0
      exact ⟨rfl, by simpa using M.out.bytes, M.out.out⟩
end Go.Proofs.YtihoomlaggihlaaGreatDoor
