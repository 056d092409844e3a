/- The contracts of the journal's write, Room and Records. Under no condition but sizes. -/
import Derived.Test.YtihoomlaggihlaaGreatDoorKF
namespace Go.Proofs.YtihoomlaggihlaaGreatDoor
open Go.RowKit

theorem write_cases (D : PD) (i : Nat) (t : List UInt8) : (D.write i t).2 = 0 ∨ (D.write i t).2 = 21 := by
  unfold PD.write
  split
  · exact Or.inr rfl
  · exact count_cases _
theorem count_pend (D : PD) : D.count.1.pend.length ≤ D.pend.length := by
  unfold PD.count
  split
  · exact Nat.le_refl _
  · split
    · exact Nat.le_refl _
    · unfold PD.fail
      split
      · exact Nat.le_refl _
      · simp
theorem write_pend (D : PD) (i : Nat) (t : List UInt8) : (D.write i t).1.pend.length ≤ D.pend.length + 1 := by
  unfold PD.write
  split
  · simp
  · exact Nat.le_trans (count_pend _) (by simp)
/-- writes made so far -/
structure Writing (D : PD) (place : Nat) (texts : List (List UInt8)) (F : Nat → Prop) (wo : World) (d n k : Nat) (E : PD) (G : Nat → Prop) (w : World) : Prop where
  dat : DAt w G d n E
  stp : Stp F wo G w
  todo : D.writes (rowAt place texts) = E.writes (rowAt (place + k) (texts.drop k))
  len : E.pend.length ≤ D.pend.length + k
theorem Writing.next {D E : PD} {place d n k : Nat} {texts : List (List UInt8)} {F G G' : Nat → Prop} {wo w w' : World} (h : Writing D place texts F wo d n k E G w) (hk : k < texts.length) (h0 : (E.write (place + k) texts[k]).2 = 0) (hd : DAt w' G' d n (E.write (place + k) texts[k]).1) (hs : Stp G w G' w') : Writing D place texts F wo d n (k + 1) (E.write (place + k) texts[k]).1 G' w' := by
  refine ⟨hd, h.stp.trans hs, ?_, Nat.le_trans (write_pend _ _ _) (by have := h.len; omega)⟩
  rw [h.todo, List.drop_eq_getElem_cons hk, rowAt, PD.writes, if_pos h0, Nat.add_assoc]
theorem Writing.stop {D E : PD} {place d n k : Nat} {texts : List (List UInt8)} {F G : Nat → Prop} {wo w : World} (h : Writing D place texts F wo d n k E G w) (hk : k < texts.length) (h0 : (E.write (place + k) texts[k]).2 = 21) : D.writes (rowAt place texts) = E.write (place + k) texts[k] := by
  rw [h.todo, List.drop_eq_getElem_cons hk, rowAt, PD.writes, if_neg (by rw [h0]; decide)]
theorem Writing.done {D E : PD} {place d n : Nat} {texts : List (List UInt8)} {F G : Nat → Prop} {wo w : World} (h : Writing D place texts F wo d n texts.length E G w) : D.writes (rowAt place texts) = E.sync := by
  rw [h.todo, List.drop_length]; rfl
set_option maxHeartbeats 4000000 in
set_option maxRecDepth 100000 in
theorem jwrite_any (w : World) (F : Nat → Prop) (jb d n place : Nat) (D : PD) (cs : Array Value) (v : Value) (texts : List (List UInt8)) (h : DAt w F d n D) (hj : w.heap[jb]? = some (.cells cs 53 (0, 0))) (hc : cs[0]? = some (.pointer (some ⟨d, 0, none⟩))) (hF : ¬ F jb) (hv : SR w F v texts) (h64 : ∀ t ∈ texts, t.length = 64) (hp : place + texts.length ≤ n) (hm : D.pend.length ≤ 5000) :
    Calls Tryz.prog 41 #[.pointer (some ⟨jb, 0, none⟩), .int .i64 place, v] w fun e w' => e = .returned (.int .i64 (D.writes (rowAt place texts)).2) ∧ ∃ F', DAt w' F' d n (D.writes (rowAt place texts)).1 ∧ Stp F w F' w' := by
  have hn := h.n4
  have H0 : Hid (Writing D place texts F w d n 0 D F w) := Lib.hid ⟨h, Stp.refl _ _, rfl, Nat.le_refl _⟩
  have HJ := Lib.hid hj
  have HC := Lib.hid hc
  have HF := Lib.hid hF
  have H64 := Lib.hid h64
  have hjl := heap_lt hj
  obtain ⟨a, c, rfl, hcc, hcs⟩ := hv
  have HV : Hid (SR w F (.slice a texts.length c) texts) := Lib.hid ⟨a, c, rfl, hcc, hcs⟩
  clear h hj hc hF h64 hcs
  go_enter Tryz.func41, Tryz.ntmps41
  go_wp2_with fail
  obtain ⟨wo, rfl⟩ : ∃ wo : World, wo = w := ⟨_, rfl⟩
  go_loopw [7, 8, 9, 12] (fun _ _ _ i wr => ∃ (k : Nat) (E : PD) (G : Nat → Prop), k ≤ texts.length ∧ i = .int .i64 k ∧ Hid (Writing D place texts F wo d n k E G wr)) (fun _ _ _ i _ => texts.length - (intOf i).toNat)
  case atStart => exact ⟨0, D, F, by omega, rfl, H0⟩
  case round =>
    clear H0
    obtain ⟨k, E, G, hk, rfl, M⟩ := hrel
    have hk0 : (0 : Int) ≤ (k : Int) := Int.natCast_nonneg _
    have hjr : wr.heap[jb]? = some (.cells cs 53 (0, 0)) := M.out.stp.out.heap HJ.out HF.out
    have cj := cell_at hjr HC.out
    have hjl2 := heap_lt hjr
    have hpl := M.out.len
    clear hjr
    by_cases hlt : k < texts.length
    · obtain ⟨a', c', e1, _, hcs⟩ := HV.out.stp M.out.stp
      cases e1
      obtain ⟨b, o, rfl, _, hcell⟩ := hcs k hlt
      have hk1 : (k : Int) < (texts.length : Int) := by omega
      have p0 : (0 : Int) ≤ (place : Int) := Int.natCast_nonneg _
      have p1 : (place : Int) + (k : Int) ≤ 4000 := by omega
      have HW := Lib.hid (write_any wr G d n E (place + k) texts[k] M.out.dat (by omega) (H64.out _ (List.getElem_mem hlt)) (by omega))
      have ec : ((place + k : Nat) : Int) = (place : Int) + (k : Int) := by omega
      rw [ec] at HW
      clear hcs ec
      rcases write_cases E (place + k) texts[k] with h0 | h0
      · have HN := Lib.hid (fun G' w' => M.out.next (G' := G') (w' := w') hlt h0)
        rw [h0] at HW
        clear h0
        go_wp2_with fail
        refine HW.out.mono ?_
        rintro e w2 ⟨rfl, G', g1, g2⟩
        have M2 := Lib.hid (HN.out G' w2 g1 g2)
        clear g1 g2 HN HW
        go_wp2_with fail
        go_roundw
        case rel => exact ⟨k + 1, _, G', by omega, by go_num, M2⟩
        case measure => simp [intOf]; omega
      · have HS := Lib.hid (M.out.stop hlt h0)
        have HH := Lib.hid h0
        rw [h0] at HW
        clear h0
        go_wp2_with fail
        refine HW.out.mono ?_
        rintro e w2 ⟨rfl, G', g1, g2⟩
        have G1 := Lib.hid (And.intro g1 g2)
        clear g1 g2 HW
        go_wp2_with fail
        go_ret
        rw [HS.out]
        exact ⟨by rw [HH.out]; rfl, G', G1.out.1, M.out.stp.trans G1.out.2⟩
    · obtain rfl : k = texts.length := by omega
      have HS := Lib.hid M.out.done
      go_wp2_with fail
      refine (sync_any wr G d n E M.out.dat (by omega)).mono ?_
      rintro e w2 ⟨rfl, g1, g2⟩
      have G1 := Lib.hid (And.intro g1 g2)
      clear g1 g2
      go_wp2_with fail
      go_ret
      rw [HS.out]
      exact ⟨rfl, G, G1.out.1, M.out.stp.trans (Stp.same G1.out.2)⟩
end Go.Proofs.YtihoomlaggihlaaGreatDoor
