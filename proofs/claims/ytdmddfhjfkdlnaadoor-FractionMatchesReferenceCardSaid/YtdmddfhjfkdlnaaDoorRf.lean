/- The contract of the reference's times. Under no condition. -/
import Derived.Test.YtdmddfhjfkdlnaaDoorRe
import Derived.Test.YtdmddfhjfkdlnaaDoorPz
import Derived.OwnWalk
namespace Go.Proofs.YtdmddfhjfkdlnaaDoor
open Go.RowKit

theorem made_zeros (n : Nat) : (madeCells (Value.int .i64 0).cells (n * 1)).toList = encN (List.replicate n 0) := by
  rw [Nat.mul_one]
  unfold madeCells encN
  apply List.ext_getElem
  · simp
  · intro i h1 h2
    simp [Value.cells, Nat.mod_one]
/-- a row of digits of the call's own, of known place -/
def RowN (w0 : World) (g L : Nat) (o : List Nat) (wr : World) : Prop := OwnN w0 o (.slice (some ⟨g, 0, none⟩) L L) wr ∧ o.length = L
theorem RowN.cell {w0 wr : World} {g L : Nat} {o : List Nat} (h : RowN w0 g L o wr) {j : Nat} (hj : j < o.length) : wr.cell? ⟨g, j, none⟩ = some (.int .i64 ((o[j] : Nat) : Int)) := by
  obtain ⟨h1, hl⟩ := h
  subst hl
  have := h1.1.cellAt j (by omega)
  rw [this]; exact encN_at o j hj
theorem RowN.free {w0 wr : World} {g L : Nat} {o : List Nat} (h : RowN w0 g L o wr) (j : Nat) : wr.frozen? ⟨g, j, none⟩ = false := by
  obtain ⟨h1, hl⟩ := h
  subst hl
  exact h1.1.frozenAt j
theorem encN_set (o : List Nat) (j d : Nat) : (encN o).set j (.int .i64 (d : Int)) = encN (o.set j d) := by unfold encN; rw [List.map_set]
theorem RowN.put {w0 wr : World} {g L : Nat} {o : List Nat} (h : RowN w0 g L o wr) (j d : Nat) : RowN w0 g L (o.set j d) (wr.setCell ⟨g, j, none⟩ (.int .i64 (d : Int))) := by
  obtain ⟨⟨h1, h2⟩, hl⟩ := h
  subst hl
  obtain ⟨s1, s2⟩ := h1.stored j (.int .i64 (d : Int))
  refine ⟨⟨?_, ?_⟩, by simp⟩
  · rw [encN_set] at s1; rw [List.length_set]; exact s1
  · refine h2.setCell ?_ _
    rcases h1.2 with ⟨h', _⟩ | ⟨g', cap', cur, h', hb, _⟩
    · cases h'
    · simp only [Value.slice.injEq, Option.some.injEq, Addr.mk.injEq, and_true, true_and] at h'
      obtain ⟨rfl, _⟩ := h'
      exact hb

set_option maxHeartbeats 8000000 in
theorem times_any' (A B : Option Addr) (c c' : Nat) (x y : Nat) (w : World) (hr : RdN w A (bin x)) (hr' : RdN w B (bin y)) (hl : (bin x).length ≤ 400) (hl' : (bin y).length ≤ 400) :
    Calls Tryd.prog 39 #[.slice A (bin x).length c, .slice B (bin y).length c'] w (DPost (bin (x * y)) w) := by
  obtain ⟨i0, hi, hz0, hz1, hz2⟩ := info_parts info3
  have HR := Lib.hid (fun (i : Nat) (h : i < (bin x).length) => hr.digit h)
  have HR' := Lib.hid (fun (i : Nat) (h : i < (bin y).length) => hr'.digit h)
  have HY := Lib.hid (bin_lt y)
  have HTB := Lib.hid (times_bound x y)
  have HMA := Lib.hid (mod_all x)
  clear hr hr'
  generalize (bin x).length = lx at *
  generalize (bin y).length = ly at *
  go_enter Tryd.func39, Tryd.ntmps39
  go_wp2_with (at_make; refine wpList_make_full _ rfl _ _ 45 rfl w.heap.size 3 i0 _ 1 Tryd.underlying45 hi hz0 hz1 .i64 .i64 _ _ (lx + ly + 1) rfl rfl (by omega) (by omega) (by rw [hz2]; omega) (by unfold maxLen; omega) (Nat.le_refl _) ?_; intro w1 hown hgrow)
  have HRW : Hid (RowN w w.heap.size (lx + ly + 1) (List.replicate (lx + ly + 1) 0) w1) := Lib.hid ⟨⟨by rw [made_zeros] at hown; rw [List.length_replicate]; exact hown, (Below.refl _ _).grown hgrow (Nat.le_refl _) (fun k hk => by cases hk)⟩, List.length_replicate⟩
  clear hown hgrow
  go_wp2_with fail
  go_loopw [6, 7, 8] (fun t _u _v wr => ∃ (i : Nat) (o : List Nat), i ≤ lx ∧ t = .int .i64 i ∧ Hid (Dg o) ∧ Hid (val o = x % 2 ^ i * y) ∧ Hid (RowN w w.heap.size (lx + ly + 1) o wr)) (fun t _ _ _ => lx - (intOf t).toNat)
  case atStart => exact ⟨0, _, by omega, rfl, Lib.hid (dg_zeros _), Lib.hid (by rw [val_zeros]; simp [Nat.mod_one]), HRW⟩
  case round =>
    obtain ⟨i, o, hi1, rfl, HDG, HV, HO⟩ := hrel
    clear HRW
    by_cases cx : i < lx
    · obtain ⟨b, off, rfl, hlt, hcell⟩ := HR.out i cx
      replace hcell := cell_later HO.out.1.2 hcell
      obtain ⟨p, hp⟩ : ∃ p, x / 2 ^ i % 2 = p := ⟨_, rfl⟩
      rw [hp] at hcell
      have hp1 : p ≤ 1 := by omega
      by_cases hp0 : p = 0
      · subst hp0
        have HS := Lib.hid (times_none HV.out hp)
        clear hp
        go_wp2_with fail
        go_roundw
        case rel => exact ⟨i + 1, o, by omega, by go_num, HDG, HS, HO⟩
        case measure => simp [intOf]; omega
      · obtain rfl : p = 1 := by omega
        have HS := Lib.hid (times_one HV.out hp)
        clear hp hp0
        obtain ⟨wo, hwo⟩ : ∃ wo : World, wo = wr := ⟨_, rfl⟩
        subst hwo
        go_wp2_with fail
        go_loopw [7, 8] (fun cr t wr => ∃ (k cy : Nat) (o' : List Nat), i + k ≤ lx + ly + 1 ∧ cy ≤ 1 ∧ t = .int .i64 k ∧ cr = .int .i64 cy ∧ Hid (Dg o') ∧ Hid (val o' + 2 ^ (i + k) * (cy + y / 2 ^ k) = x % 2 ^ (i + 1) * y) ∧ Hid (RowN w w.heap.size (lx + ly + 1) o' wr)) (fun _ t _ => lx + ly + 1 - (intOf t).toNat)
        case atStart => exact ⟨0, 0, o, by omega, by omega, rfl, rfl, HDG, Lib.hid (by rw [← HS.out]; simp), HO⟩
        case round =>
          obtain ⟨k, cy, o', hik, hcy, rfl, rfl, HDG', HE, HO'⟩ := hrel
          replace hcell := hcell
          by_cases cj : i + k < lx + ly + 1
          · have hjo : i + k < o'.length := by have := HO'.out.2; omega
            have hdc := HO'.out.cell hjo
            have hfr := HO'.out.free (i + k)
            have hd1 := HDG'.out _ (List.getElem_mem hjo)
            have dj : decide ((i : Int) + (k : Int) < (lx : Int) + (ly : Int) + 1) = true := decide_eq_true (by omega)
            by_cases ck : k < ly
            · obtain ⟨b', off', rfl, hlt', hcell'⟩ := HR'.out k ck
              replace hcell' := cell_later HO'.out.1.2 hcell'
              obtain ⟨q, hq⟩ : ∃ q, q = y / 2 ^ k % 2 := ⟨_, rfl⟩
              rw [← hq] at hcell'
              have hq1 : q ≤ 1 := by omega
              have HQ := Lib.hid hq
              clear hq
              have dk : decide ((k : Int) < (ly : Int)) = true := decide_eq_true (by omega)
              have HN := Lib.hid (times_step hjo HE.out HQ.out)
              obtain ⟨d, hd⟩ : ∃ d, o'[i + k]'hjo = d := ⟨_, rfl⟩
              rw [hd] at hdc hd1 HN
              obtain ⟨z, hz⟩ : ∃ z, (cy + d + q) % 2 = z := ⟨_, rfl⟩
              obtain ⟨cz, hcz⟩ : ∃ cz, (cy + d + q) / 2 = cz := ⟨_, rfl⟩
              rw [hz, hcz] at HN
              have hz1 : z ≤ 1 := by omega
              have hcz1 : cz ≤ 1 := by omega
              have e2 : ((cy : Int) + (d : Int) + (q : Int)) % 2 = (z : Int) := by omega
              have e3 : ((cy : Int) + (d : Int) + (q : Int)) / 2 = (cz : Int) := by omega
              have HP := Lib.hid (HO'.out.put (i + k) z)
              clear hd hz hcz HR HR' HY
              go_wp2_with fail
              go_roundw
              case rel => exact ⟨k + 1, cz, o'.set (i + k) z, by omega, hcz1, by go_num, (by first | exact congrArg (Value.int .i64) e3 | rfl), Lib.hid (HDG'.out.set hz1), HN, HP⟩
              case measure => simp [intOf]; omega
            · have HQ : Hid (0 = y / 2 ^ k % 2) := Lib.hid (by rw [Nat.eq_zero_of_not_ne (fun e => ck ((HY.out k).2 e))])
              have dk : decide (k < ly) = false := decide_eq_false ck
              have HN := Lib.hid (times_step hjo HE.out HQ.out)
              obtain ⟨d, hd⟩ : ∃ d, o'[i + k]'hjo = d := ⟨_, rfl⟩
              rw [hd] at hdc hd1 HN
              obtain ⟨z, hz⟩ : ∃ z, (cy + d + 0) % 2 = z := ⟨_, rfl⟩
              obtain ⟨cz, hcz⟩ : ∃ cz, (cy + d + 0) / 2 = cz := ⟨_, rfl⟩
              rw [hz, hcz] at HN
              have hz1 : z ≤ 1 := by omega
              have hcz1 : cz ≤ 1 := by omega
              have e2 : ((cy : Int) + (d : Int)) % 2 = (z : Int) := by omega
              have e3 : ((cy : Int) + (d : Int)) / 2 = (cz : Int) := by omega
              have HP := Lib.hid (HO'.out.put (i + k) z)
              clear hd hz hcz HR HR' HY
              go_wp2_with fail
              go_roundw
              case rel => exact ⟨k + 1, cz, o'.set (i + k) z, by omega, hcz1, by go_num, (by first | exact congrArg (Value.int .i64) e3 | rfl), Lib.hid (HDG'.out.set hz1), HN, HP⟩
              case measure => simp [intOf]; omega
          · have hjo : i + k = lx + ly + 1 := by omega
            have HV' := Lib.hid (times_end (o := o') (c := cy) (u := y / 2 ^ k) (T := x % 2 ^ (i + 1) * y) (by have := HO'.out.2; rw [this, ← hjo]; exact HE.out) (by have := HO'.out.2; rw [this]; exact HTB.out (i + 1)))
            have dj : decide ((i : Int) + (k : Int) < (lx : Int) + (ly : Int) + 1) = false := decide_eq_false (by omega)
            clear hjo
            go_wp2_with fail
            go_roundw
            case rel => exact ⟨i + 1, o', by omega, by go_num, HDG', HV', HO'⟩
            case measure => simp [intOf]; omega
    · obtain rfl : i = lx := by omega
      have HF := Lib.hid (show trm o = bin (x * y) by unfold trm; rw [HV.out, HMA.out])
      have hol : o.length ≤ 1000 := by have := HO.out.2; omega
      have HB := Lib.hid HO.out.1.2
      obtain ⟨A', c'', hA', hc, hrd⟩ := HO.out.1.rd
      have HT := Lib.hid (trim_any A' c'' o wr HDG.out hrd hol hc.1)
      rw [← hA', HF.out] at HT
      have HCC := Lib.hid (show (bin (x * y)).length ≤ c'' ∧ (A' = none → c'' = 0) ∧ ∀ b off, A' = some ⟨b, off, none⟩ → w.heap.size ≤ b from ⟨by rw [← HF.out]; exact Nat.le_trans (trm_len _ HDG.out) hc.1, hc.2⟩)
      clear hrd hA' cx hc
      go_wp2_with fail
      refine HT.out.mono ?_
      rintro e w2 ⟨rfl, g2, rfl⟩
      have HG := Lib.hid g2
      clear g2
      go_wp2_with fail
      go_ret
      exact ⟨A', c'', rfl, HCC.out, HG.out, HB.out⟩
end Go.Proofs.YtdmddfhjfkdlnaaDoor
