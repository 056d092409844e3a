/- What a rotten byte does to a journal in good order, sector by sector; a byte that rots. No program in sight. Under no condition. -/
import Derived.Test.YtihoomlaggihlaaGreatDoorLF
namespace Go.Proofs.YtihoomlaggihlaaGreatDoor
open Go.Lib (decDigits)

theorem rot_far {n c q i : Nat} {S a : List (List UInt8)} {v : UInt8} (h : Good n S c a) (hS : Sec n S) (hn8 : n - 2 < 10 ^ 8) (hq : q < n) (hi : i < 64) (hv : (S.getD q []).getD i 0 ≠ v) (hw : q < 2 ∨ 2 + c ≤ q) :
    Opn n (S.set q ((S.getD q []).set i v)) c a := by
  have hc := h.opn.le hn8
  have own : (S.set q ((S.getD q []).set i v)).getD q [] = (S.getD q []).set i v := by
    rw [List.getD_eq_getElem?_getD, List.getElem?_set_self (by rw [hS.1]; exact hq)]; rfl
  have far : ∀ j, j ≠ q → (S.set q ((S.getD q []).set i v)).getD j [] = S.getD j [] := fun j hj => by
    rw [List.getD_eq_getElem?_getD, List.getElem?_set_ne (Ne.symm hj), ← List.getD_eq_getElem?_getD]
  by_cases q0 : q = 0
  · subst q0
    refine h.opn.far (fun j hj => far _ (by omega)) ?_
    rw [own, far 1 (by omega), ok_cnt hn8 hc h.two]
    have := rot_head hn8 h.one hi hv
    omega
  by_cases q1 : q = 1
  · subst q1
    refine h.opn.far (fun j hj => far _ (by omega)) ?_
    rw [own, far 0 (by omega), ok_cnt hn8 hc h.one]
    have := rot_head hn8 h.two hi hv
    omega
  exact h.opn.far (fun j hj => far _ (by omega)) (by rw [far 0 (by omega), far 1 (by omega)]; exact h.opn.top)
theorem rot_body {n c q i : Nat} {S a : List (List UInt8)} {v : UInt8} (h : Good n S c a) (hS : Sec n S) (hn8 : n - 2 < 10 ^ 8) (hq : q < n) (hi : i < 64) (hv : (S.getD q []).getD i 0 ≠ v) (hw : 2 ≤ q ∧ q < 2 + c) :
    ∀ c' a', ¬ Opn n (S.set q ((S.getD q []).set i v)) c' a' := by
  have hc := h.opn.le hn8
  have own : (S.set q ((S.getD q []).set i v)).getD q [] = (S.getD q []).set i v := by
    rw [List.getD_eq_getElem?_getD, List.getElem?_set_self (by rw [hS.1]; exact hq)]; rfl
  have far : ∀ j, j ≠ q → (S.set q ((S.getD q []).set i v)).getD j [] = S.getD j [] := fun j hj => by
    rw [List.getD_eq_getElem?_getD, List.getElem?_set_ne (Ne.symm hj), ← List.getD_eq_getElem?_getD]
  intro c' a' g
  have e : c' = c := by
    have := g.top
    rw [far 0 (by omega), far 1 (by omega), h.opn.top] at this
    omega
  subst e
  obtain ⟨ts, h1, h2, _⟩ := g.body
  obtain ⟨us, u1, u2, _⟩ := h.opn.body
  have k := h2 (q - 2) (by omega)
  have k' := u2 (q - 2) (by omega)
  rw [show 2 + (q - 2) = q by omega] at k k'
  rw [own] at k
  rw [k'.2.2] at k hv
  have := rot_sealed (p := decs 8 q []) (c := fillT (decs 2 us[q - 2].length [] ++ us[q - 2])) (by rw [decs_len]; rfl) (fill_len (by rw [List.length_append, decs_len]; simp; omega)) hi hv
  exact this ⟨_, k.2.2⟩
theorem xor_ne (x : UInt8) (m : Int) (h0 : 0 < m) (h1 : m < 256) : x ≠ x ^^^ UInt8.ofNat m.toNat := by
  intro e
  have h2 : UInt8.ofNat m.toNat = 0 := by
    have := congrArg (x ^^^ ·) e
    simp only [UInt8.xor_self, ← UInt8.xor_assoc, UInt8.zero_xor] at this
    exact this.symm
  have := congrArg UInt8.toNat h2
  simp at this
  omega
/-- a byte rots, somewhere or nowhere -/
theorem rot_good {n c : Nat} {S a : List (List UInt8)} {al : Option (Int × Int × Int)} (h : Good n S c a) (hS : Sec n S) (hn8 : n - 2 < 10 ^ 8) (i x m : Int) :
    ∃ S', PD.rot ⟨S, [], false, al⟩ i x m = ⟨S', [], false, al⟩ ∧ Sec n S' ∧ (Opn n S' c a ∨ ∀ c' a', ¬ Opn n S' c' a') ∧ (i < 2 → Opn n S' c a) ∧ ((2 ≤ i ∧ i < 2 + (c : Int) ∧ 0 ≤ x ∧ x < 64 ∧ 0 < m ∧ m < 256) → ∀ c' a', ¬ Opn n S' c' a') := by
  have hl := hS.1
  have hc := h.opn.le hn8
  by_cases hh : 0 ≤ i ∧ i < (S.length : Int) ∧ 0 ≤ x ∧ x < 64 ∧ 0 < m ∧ m < 256
  · have hn := xor_ne ((S.getD i.toNat []).getD x.toNat 0) m hh.2.2.2.2.1 hh.2.2.2.2.2
    refine ⟨_, by unfold PD.rot; rw [if_pos hh], ?_, ?_, ?_, ?_⟩
    · refine ⟨by simp [hS.1], fun s hs => ?_⟩
      rcases List.mem_or_eq_of_mem_set hs with e | e
      · exact hS.2 s e
      · rw [e, List.length_set, hS.at (by omega)]
    · exact rot_law h hS hn8 (by omega) (by omega) hn
    · intro h2
      exact rot_far h hS hn8 (by omega) (by omega) hn (Or.inl (by omega))
    · intro h2
      exact rot_body h hS hn8 (by omega) (by omega) hn ⟨by omega, by omega⟩
  · refine ⟨S, by unfold PD.rot; rw [if_neg hh], hS, Or.inl h.opn, fun _ => h.opn, fun h2 => ?_⟩
    exact absurd ⟨by omega, by omega, h2.2.2.1, h2.2.2.2.1, h2.2.2.2.2.1, h2.2.2.2.2.2⟩ hh
end Go.Proofs.YtihoomlaggihlaaGreatDoor
