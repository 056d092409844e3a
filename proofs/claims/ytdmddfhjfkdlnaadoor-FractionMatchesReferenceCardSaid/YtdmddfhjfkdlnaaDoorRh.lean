/- The contract of the reference's divisor. Under no condition. -/
import Derived.Test.YtdmddfhjfkdlnaaDoorRg
import Derived.Test.YtdmddfhjfkdlnaaDoorPw
namespace Go.Proofs.YtdmddfhjfkdlnaaDoor
open Go.RowKit

/-- a slice that reads as a number -/
def Sl (wr : World) (A : Option Addr) (n c x : Nat) : Prop := n = (bin x).length ∧ n ≤ c ∧ RdN wr A (bin x)
theorem Sl.keep {w w' : World} {A : Option Addr} {n c x : Nat} (h : Sl w A n c x) (hb : Below w.heap.size w w') : Sl w' A n c x := ⟨h.1, h.2.1, h.2.2.keep hb⟩
theorem Sl.odd {wr : World} {A : Option Addr} {n c x : Nat} (h : Sl wr A n c x) (hx : x % 2 = 1) : ∃ b off, A = some ⟨b, off, none⟩ ∧ 1 ≤ n ∧ wr.cell? ⟨b, off, none⟩ = some (.int .i64 1) := by
  obtain ⟨h1, h2, h3⟩ := h
  rw [bin_odd hx] at h1 h3
  rcases h3 with h3 | ⟨b, off, rfl, _, hc⟩
  · cases h3
  · exact ⟨b, off, rfl, by rw [h1]; simp, hc 0 (by simp)⟩
theorem RdN.tail {wr : World} {b off d : Nat} {l : List Nat} (h : RdN wr (some ⟨b, off, none⟩) (d :: l)) : RdN wr (some ⟨b, off + 1, none⟩) l := by
  rcases h with h | ⟨b', off', e, hlt, hc⟩
  · cases h
  · simp only [Option.some.injEq, Addr.mk.injEq, and_true] at e
    obtain ⟨rfl, rfl⟩ := e
    refine Or.inr ⟨b, off + 1, rfl, hlt, fun j hj => ?_⟩
    have := hc (j + 1) (by simpa using hj)
    rw [show off + 1 + j = off + (j + 1) by omega, this]
    rfl
theorem Sl.even {wr : World} {A : Option Addr} {n c x : Nat} (h : Sl wr A n c x) (hx : x ≠ 0) (hx2 : x % 2 = 0) : ∃ b off m d, A = some ⟨b, off, none⟩ ∧ n = m + 2 ∧ c = d + 2 ∧ wr.cell? ⟨b, off, none⟩ = some (.int .i64 0) ∧ Sl wr (some ⟨b, off + 1, none⟩) (m + 1) (d + 1) (x / 2) := by
  obtain ⟨h1, h2, h3⟩ := h
  have e := bin_even hx hx2
  rw [e] at h1 h3
  have hl : (bin (x / 2)).length ≠ 0 := by
    intro h0
    have := bin_nil.1 (List.eq_nil_of_length_eq_zero h0)
    omega
  rw [List.length_cons] at h1
  rcases h3 with h3 | ⟨b, off, rfl, hlt, hc⟩
  · cases h3
  · refine ⟨b, off, n - 2, c - 2, rfl, by omega, by omega, hc 0 (by simp), by omega, by omega, ?_⟩
    exact RdN.tail (d := 0) (Or.inr ⟨b, off, rfl, hlt, hc⟩)
/-- the value of the digits of a slice -/
def rdv (wr : World) : Value → Nat
  | .slice (some p) n _ => val ((List.range n).map fun j => match wr.cell? ⟨p.block, p.off + j, none⟩ with | some (.int _ i) => i.toNat | _ => 0)
  | _ => 0
theorem Sl.rdv {wr : World} {A : Option Addr} {n c x : Nat} (h : Sl wr A n c x) : rdv wr (.slice A n c) = x := by
  obtain ⟨h1, _, h3⟩ := h
  rcases h3 with h3 | ⟨b, off, rfl, _, hc⟩
  · have h0 : x = 0 := bin_nil.1 h3
    subst h0
    rw [bin_zero] at h1
    obtain rfl : n = 0 := h1
    cases A <;> rfl
  · have : ((List.range n).map fun j => match wr.cell? ⟨b, off + j, none⟩ with | some (.int _ i) => i.toNat | _ => 0) = bin x := by
      apply List.ext_getElem
      · simp [h1]
      · intro i h2 h3
        simp only [List.getElem_map, List.getElem_range]
        rw [hc i h3]
        simp
    show val _ = x
    rw [this, val_bin]
/-- the length of a slice -/
def lenS : Value → Nat
  | .slice _ n _ => n
  | _ => 0

/-- what divisor hands back: digits of its own, or an argument -/
def GPost (g : Nat) (w : World) (e : Ending) (w' : World) : Prop := ∃ A n c, e = .returned (.slice A n c) ∧ Sl w' A n c g ∧ Below w.heap.size w w'

theorem bin_len_le {x y : Nat} (h : x ≤ y) : (bin x).length ≤ (bin y).length := bin_len x _ (by have := val_lt (bin y) (bin_dg y); rw [val_bin] at this; omega)
theorem Sl.len {wr : World} {A : Option Addr} {n c x : Nat} (h : Sl wr A n c x) : n = (bin x).length := h.1
theorem DPost.sl {x : Nat} {w : World} {e : Ending} {w' : World} (h : DPost (bin x) w e w') : ∃ A n c, e = .returned (.slice A n c) ∧ Sl w' A n c x ∧ Below w.heap.size w w' := by
  obtain ⟨A, c, rfl, h1, h2, h3⟩ := h
  exact ⟨A, _, c, rfl, ⟨rfl, h1.1, h2⟩, h3⟩
theorem less_sl {w : World} {A B : Option Addr} {n m c c' x y : Nat} (h : Sl w A n c x) (h' : Sl w B m c' y) (hl : n ≤ 1000) :
    Calls Tryd.prog 41 #[.slice A n c, .slice B m c'] w fun e w' => e = .returned (.bool (decide (x < y))) ∧ Gr w w' :=
  less_at h.1 h'.1 w h.2.2 h'.2.2 (by rw [← h.1]; exact hl)
theorem minus_sl {w : World} {A B : Option Addr} {n m c c' x y : Nat} (h : Sl w A n c x) (h' : Sl w B m c' y) (hl : n ≤ 1000) (hyx : y ≤ x) :
    Calls Tryd.prog 42 #[.slice A n c, .slice B m c'] w (GPost (x - y) w) := by
  have k := minus_any' A B c c' x y w hyx h.2.2 h'.2.2 (by rw [← h.1]; exact hl)
  rw [← h.1, ← h'.1] at k
  exact k.mono fun e w' q => q.sl
/-- the greatest divisor of two numbers, one of which is odd, while twos are taken off -/
theorem half_left {x y g : Nat} (h : Nat.gcd x y = g) (ho : x % 2 = 1 ∨ y % 2 = 1) (hx : x % 2 = 0) : Nat.gcd (x / 2) y = g ∧ (x / 2 % 2 = 1 ∨ y % 2 = 1) := by
  have hy : y % 2 = 1 := by omega
  exact ⟨by rw [gcd_left hx hy, h], Or.inr hy⟩
theorem half_right {x y g : Nat} (h : Nat.gcd x y = g) (hx : x % 2 = 1) (hy : y % 2 = 0) : Nat.gcd x (y / 2) = g := by
  rw [gcd_right hx hy, h]

theorem rd_plain {w : World} {ad : Addr} {l : List Nat} (h : RdN w (some ad) l) : ∀ j u, (encN l)[j]? = some u → w.cell? (ad.add j) = some u := by
  intro j u hu
  have hj : j < l.length := by
    rcases Nat.lt_or_ge j l.length with c | c
    · exact c
    · rw [List.getElem?_eq_none (by rw [encN_len]; exact c)] at hu; cases hu
  rcases h with h | ⟨b, off, e, hlt, hc⟩
  · rw [h] at hj; simp at hj
  · obtain rfl := Option.some.inj e
    rw [encN_at l j hj] at hu
    rw [Addr.add_lit, ← hu]
    exact hc j hj
/-- zeros with digits behind them, of the call's own -/
theorem own_twos {w wr w1 w5 : World} {t g m : Nat} {v v' : Value} (hg : g ≠ 0) (hm : m = (bin g).length) (hbw : Below w.heap.size w wr) (h : OwnN wr (List.replicate t 0) v w1) (hown : w5.ownsRow wr.heap.size 3 1 v' (t + m) (encN (List.replicate t 0) ++ encN (bin g))) (hgrow : w1.grownBy w5 v.ownBlock) : GPost (2 ^ t * g) w (.returned v') w5 := by
  have ho : OwnN wr (bin (2 ^ t * g)) v' w5 := by
    refine ⟨?_, h.2.grown hgrow h.2.size (fun k' hk' => (h.1.lt k' hk').1)⟩
    rw [bin_twos t g hg, encN_app, List.length_append, List.length_replicate, ← hm]
    exact hown
  obtain ⟨A, c, rfl, h1, h2⟩ := ho.rd
  exact ⟨A, _, c, rfl, ⟨rfl, h1.1, h2⟩, hbw.trans (ho.2.mono hbw.size)⟩
theorem Sl.some {wr : World} {A : Option Addr} {n c x : Nat} (h : Sl wr A n c x) (hx : x ≠ 0) : ∃ ad, A = some ad := by
  rcases h.2.2 with h3 | ⟨b, off, rfl, _, _⟩
  · exact absurd (bin_nil.1 h3) hx
  · exact ⟨_, rfl⟩

set_option maxHeartbeats 8000000 in
set_option maxRecDepth 100000 in
theorem divr_any (A B : Option Addr) (n m c c' : Nat) (X Y : Nat) (w : World) (hr : Sl w A n c X) (hr' : Sl w B m c' Y) (hl : n ≤ 400) (hl' : m ≤ 400) :
    Calls Tryd.prog 43 #[.slice A n c, .slice B m c'] w (GPost (Nat.gcd X Y) w) := by
  obtain ⟨i0, hi, hz0, hz1, hz2⟩ := info_parts info3
  have HR := Lib.hid hr
  have HR' := Lib.hid hr'
  by_cases hX : X = 0
  · obtain rfl : n = 0 := by have := hr.1; rw [hX, bin_zero] at this; exact this
    clear hr hr'
    go_enter Tryd.func43, Tryd.ntmps43
    go_wp2_with fail
    go_ret
    exact ⟨B, m, c', rfl, by rw [hX, Nat.gcd_zero_left]; exact HR'.out, Below.refl _ _⟩
  · have hn0 : n ≠ 0 := by have := hr.1; rw [bin_pos hX, List.length_cons] at this; omega
    by_cases hY : Y = 0
    · obtain rfl : m = 0 := by have := hr'.1; rw [hY, bin_zero] at this; exact this
      clear hr hr'
      have b0 : ((n : Int) == 0) = false := by simp; omega
      go_enter Tryd.func43, Tryd.ntmps43
      go_wp2_with fail
      go_ret
      exact ⟨A, n, c, rfl, by rw [hY, Nat.gcd_zero_right]; exact HR.out, Below.refl _ _⟩
    · have hm0 : m ≠ 0 := by have := hr'.1; rw [bin_pos hY, List.length_cons] at this; omega
      clear hr hr'
      have b0 : ((n : Int) == 0) = false := by simp; omega
      have b1 : ((m : Int) == 0) = false := by simp; omega
      go_enter Tryd.func43, Tryd.ntmps43
      go_wp2_with fail
      go_loop [0, 1, 5] (fun va vb vt => ∃ (x y t n m c c' : Nat) (A B : Option Addr), x ≠ 0 ∧ y ≠ 0 ∧ n + t ≤ 400 ∧ m + t ≤ 400 ∧ va = .slice A n c ∧ vb = .slice B m c' ∧ vt = .int .i64 t ∧ Hid (Sl w A n c x) ∧ Hid (Sl w B m c' y) ∧ Hid (Nat.gcd X Y = 2 ^ t * Nat.gcd x y)) (fun va _ _ => lenS va)
      case atStart => exact ⟨X, Y, 0, n, m, c, c', A, B, hX, hY, hl, hl', rfl, rfl, rfl, HR, HR', Lib.hid (by simp)⟩
      case round =>
        clear HR HR' b0 b1 hn0 hm0 hX hY hl hl'
        obtain ⟨x, y, t, n, m, c, c', A, B, hx, hy, hn, hm, rfl, rfl, rfl, HA, HB, HG⟩ := hrel
        by_cases hxy : x % 2 = 0 ∧ y % 2 = 0
        · obtain ⟨hxe, hye⟩ := hxy
          obtain ⟨b, off, n, d, rfl, rfl, rfl, hc, HA'⟩ := HA.out.even hx hxe
          obtain ⟨b', off', m, d', rfl, rfl, rfl, hc', HB'⟩ := HB.out.even hy hye
          have HA'' := Lib.hid HA'
          have HB'' := Lib.hid HB'
          have HG' := Lib.hid (gcd_both HG.out hxe hye)
          clear HA' HB' HG HA HB
          go_wp2_with fail
          go_round
          case rel => exact ⟨x / 2, y / 2, t + 1, n + 1, m + 1, d + 1, d' + 1, _, _, by omega, by omega, by omega, by omega, by go_num, by go_num, by go_num, HA'', HB'', HG'⟩
          case measure => simp [lenS]
        · have HODD : Hid (x % 2 = 1 ∨ y % 2 = 1) := Lib.hid (by omega)
          have hn4 : n ≤ 400 := by omega
          have hm4 : m ≤ 400 := by omega
          have ht4 : t ≤ 400 := by omega
          clear hn hm
          obtain ⟨g, hg⟩ : ∃ g, Nat.gcd x y = g := ⟨_, rfl⟩
          have HGG : Hid (Nat.gcd X Y = 2 ^ t * g) := Lib.hid (by rw [← hg]; exact HG.out)
          have HGx := Lib.hid hg
          clear hg HG
          by_cases hxo : x % 2 = 1
          · obtain ⟨b, off, rfl, hn1, hc⟩ := HA.out.odd hxo
            clear hxy hxo
            go_wp2_with fail
            go_loopw [0, 1] (fun va vb wr => ∃ (x y n m c c' : Nat) (A B : Option Addr), n ≤ 400 ∧ m ≤ 400 ∧ va = .slice A n c ∧ vb = .slice B m c' ∧ Hid (x % 2 = 1 ∨ y % 2 = 1) ∧ Hid (Sl wr A n c x) ∧ Hid (Sl wr B m c' y) ∧ Hid (Nat.gcd x y = g) ∧ Hid (Below w.heap.size w wr)) (fun va vb wr => rdv wr va + rdv wr vb)
            case atStart => exact ⟨x, y, _, _, _, _, _, _, by omega, by omega, rfl, rfl, HODD, HA, HB, HGx, Lib.hid (Below.refl _ _)⟩
            case round =>
              clear HA HB HGx HODD hn4 hm4 hx hy
              obtain ⟨x, y, n, m, c, c', A, B, hn4, hm4, rfl, rfl, HODD, HA, HB, HGx, HBW⟩ := hrel
              have HMA := Lib.hid (show rdv wr (.slice A n c) = x from HA.out.rdv)
              have HMB := Lib.hid (show rdv wr (.slice B m c') = y from HB.out.rdv)
              by_cases hx : x = 0
              · have hy : y ≠ 0 := by have h := HODD.out; rw [hx] at h; omega
                obtain rfl : n = 0 := by have := HA.out.1; rw [hx, bin_zero] at this; exact this
                have HGV : Hid (y = g) := Lib.hid (by rw [← HGx.out, hx, Nat.gcd_zero_left])
                obtain ⟨ad, rfl⟩ := HB.out.some hy
                have HNZ := Lib.hid (show g ≠ 0 by rw [← HGV.out]; exact hy)
                clear hx hy
                go_wp2_with (first | (at_make; refine wpList_make_full _ rfl _ _ 45 rfl wr.heap.size 3 i0 _ 1 Tryd.underlying45 hi hz0 hz1 .i64 .i64 _ _ t rfl rfl rfl rfl (by rw [hz2]; omega) (by unfold maxLen; omega) (Nat.le_refl _) ?_; intro w1 hown hgrow; have HOW : Hid (OwnN wr (List.replicate t 0) (.slice (some ⟨wr.heap.size, 0, none⟩) t t) w1) := Lib.hid ⟨by rw [made_zeros] at hown; rw [List.length_replicate]; exact hown, (Below.refl _ _).grown hgrow (Nat.le_refl _) (fun k hk => by cases hk)⟩; have HNW := Lib.hid (rd_plain (HB.out.keep HOW.out.2).2.2); have HOR : Hid (w1.ownsRow wr.heap.size 3 1 (.slice (some ⟨wr.heap.size, 0, none⟩) t t) t (encN (List.replicate t 0))) := Lib.hid (by rw [made_zeros] at hown; exact hown); clear hown hgrow) | (at_builtin; refine wpList_append_own _ rfl _ _ 45 rfl wr.heap.size 3 i0 _ 1 8 Tryd.underlying45 hi hz0 hz1 hz2 rfl (by decide) _ t (encN (List.replicate t 0)) rfl HOR.out ad m c' (encN (bin y)) rfl (by rw [encN_len, HB.out.1]; simp) HNW.out (encN_one _) (by unfold maxLen; omega) (by omega) HOW.out.2.size ?_; intro v' w5 hown' hgrow' _))
                have HP : Hid (GPost (Nat.gcd X Y) w (.returned v') w5) := Lib.hid (by rw [HGG.out]; rw [HGV.out] at hown'; exact own_twos HNZ.out (by rw [← HGV.out]; exact HB.out.1) HBW.out HOW.out hown' hgrow')
                clear hown' hgrow'
                go_wp2_with fail
                go_ret
                exact HP.out
              · by_cases hy : y = 0
                · obtain rfl : m = 0 := by have := HB.out.1; rw [hy, bin_zero] at this; exact this
                  have hn1 : 0 < n := by have := HA.out.1; rw [bin_pos hx, List.length_cons] at this; omega
                  have HGV : Hid (x = g) := Lib.hid (by rw [← HGx.out, hy, Nat.gcd_zero_right])
                  obtain ⟨ad, rfl⟩ := HA.out.some hx
                  have HNZ := Lib.hid (show g ≠ 0 by rw [← HGV.out]; exact hx)
                  clear hx hy
                  go_wp2_with (first | (at_make; refine wpList_make_full _ rfl _ _ 45 rfl wr.heap.size 3 i0 _ 1 Tryd.underlying45 hi hz0 hz1 .i64 .i64 _ _ t rfl rfl rfl rfl (by rw [hz2]; omega) (by unfold maxLen; omega) (Nat.le_refl _) ?_; intro w1 hown hgrow; have HOW : Hid (OwnN wr (List.replicate t 0) (.slice (some ⟨wr.heap.size, 0, none⟩) t t) w1) := Lib.hid ⟨by rw [made_zeros] at hown; rw [List.length_replicate]; exact hown, (Below.refl _ _).grown hgrow (Nat.le_refl _) (fun k hk => by cases hk)⟩; have HNW := Lib.hid (rd_plain (HA.out.keep HOW.out.2).2.2); have HOR : Hid (w1.ownsRow wr.heap.size 3 1 (.slice (some ⟨wr.heap.size, 0, none⟩) t t) t (encN (List.replicate t 0))) := Lib.hid (by rw [made_zeros] at hown; exact hown); clear hown hgrow) | (at_builtin; refine wpList_append_own _ rfl _ _ 45 rfl wr.heap.size 3 i0 _ 1 8 Tryd.underlying45 hi hz0 hz1 hz2 rfl (by decide) _ t (encN (List.replicate t 0)) rfl HOR.out ad n c (encN (bin x)) rfl (by rw [encN_len, HA.out.1]; simp) HNW.out (encN_one _) (by unfold maxLen; omega) (by omega) HOW.out.2.size ?_; intro v' w5 hown' hgrow' _))
                  have HP : Hid (GPost (Nat.gcd X Y) w (.returned v') w5) := Lib.hid (by rw [HGG.out]; rw [HGV.out] at hown'; exact own_twos HNZ.out (by rw [← HGV.out]; exact HA.out.1) HBW.out HOW.out hown' hgrow')
                  clear hown' hgrow'
                  go_wp2_with fail
                  go_ret
                  exact HP.out
                · have hn1 : 0 < n := by have := HA.out.1; rw [bin_pos hx, List.length_cons] at this; omega
                  have hm1 : 0 < m := by have := HB.out.1; rw [bin_pos hy, List.length_cons] at this; omega
                  obtain ⟨wo, hwo⟩ : ∃ wo : World, wo = wr := ⟨_, rfl⟩
                  subst hwo
                  have hx0 : 0 < x := by omega
                  have hy0 : 0 < y := by omega
                  clear hx hy
                  go_wp2_with fail
                  go_loop [0] (fun va => ∃ (x' n c : Nat) (A : Option Addr), 0 < x' ∧ x' ≤ x ∧ 0 < n ∧ n ≤ 400 ∧ va = .slice A n c ∧ Hid (x' % 2 = 1 ∨ y % 2 = 1) ∧ Hid (Sl wo A n c x') ∧ Hid (Nat.gcd x' y = g)) (fun va => lenS va)
                  case atStart => exact ⟨x, n, c, A, hx0, Nat.le_refl _, hn1, hn4, rfl, HODD, HA, HGx⟩
                  case round =>
                    clear HODD HA HGx hn4 hn1
                    obtain ⟨x', n', c2, A', hx0', hxx, hn1, hn4, rfl, HODD, HA, HGx⟩ := hrel
                    by_cases hxe : x' % 2 = 0
                    · have HH := Lib.hid (half_left HGx.out HODD.out hxe)
                      obtain ⟨b, off, n2, d, rfl, rfl, rfl, hc, HA'⟩ := HA.out.even (by omega) hxe
                      have HA'' := Lib.hid HA'
                      clear HA' HA HODD HGx
                      go_wp2_with fail
                      go_round
                      case rel => exact ⟨x' / 2, n2 + 1, d + 1, _, by omega, by omega, by omega, by omega, by go_num, Lib.hid HH.out.2, HA'', Lib.hid HH.out.1⟩
                      case measure => simp [lenS]
                    · obtain ⟨b, off, rfl, _, hc⟩ := HA.out.odd (by omega)
                      have HXO := Lib.hid (show x' % 2 = 1 by omega)
                      clear hxe HODD
                      go_wp2_with fail
                      go_loop [1] (fun vb => ∃ (y' m c' : Nat) (B : Option Addr), 0 < y' ∧ y' ≤ y ∧ 0 < m ∧ m ≤ 400 ∧ vb = .slice B m c' ∧ Hid (Sl wo B m c' y') ∧ Hid (Nat.gcd x' y' = g)) (fun vb => lenS vb)
                      case atStart => exact ⟨y, m, c', B, hy0, Nat.le_refl _, hm1, hm4, rfl, HB, HGx⟩
                      case round =>
                        clear HB HGx hm4 hm1
                        obtain ⟨y', m', c3, B', hy0', hyy, hm1, hm4, rfl, HB, HGx⟩ := hrel
                        by_cases hye : y' % 2 = 0
                        · have HH := Lib.hid (half_right HGx.out HXO.out hye)
                          obtain ⟨b2, off2, n2, d, rfl, rfl, rfl, hc2, HB'⟩ := HB.out.even (by omega) hye
                          have HB'' := Lib.hid HB'
                          clear HB' HB HGx
                          go_wp2_with fail
                          go_round
                          case rel => exact ⟨y' / 2, n2 + 1, d + 1, _, by omega, by omega, by omega, by omega, by go_num, HB'', HH⟩
                          case measure => simp [lenS]
                        · obtain ⟨b2, off2, rfl, _, hc2⟩ := HB.out.odd (by omega)
                          have HYO := Lib.hid (show y' % 2 = 1 by omega)
                          clear hye
                          have HLS := Lib.hid (less_sl HA.out HB.out (by omega))
                          by_cases hlt : x' < y'
                          · rw [show decide (x' < y') = true from decide_eq_true hlt] at HLS
                            have HH := Lib.hid (show Nat.gcd x' (y' - x') = g by rw [gcd_less (by omega)]; exact HGx.out)
                            clear HGx
                            go_wp2_with fail
                            refine HLS.out.mono ?_
                            rintro e w7 ⟨rfl, hg⟩
                            have HA7 := Lib.hid (HA.out.keep hg.below)
                            have HB7 := Lib.hid (HB.out.keep hg.below)
                            have HBW7 := Lib.hid (HBW.out.trans (hg.below.mono HBW.out.size))
                            have HMN := Lib.hid (minus_sl HB7.out HA7.out (by omega) (by omega))
                            clear hg
                            go_wp2_with fail
                            refine HMN.out.mono ?_
                            rintro e w8 ⟨A4, n4, c4, rfl, g2, g3⟩
                            have HA8 := Lib.hid (HA7.out.keep g3)
                            have HB8 := Lib.hid g2
                            have HBW8 := Lib.hid (HBW7.out.trans (g3.mono HBW7.out.size))
                            have hn44 : n4 ≤ 400 := by have h1 := g2.1; have h2 := HB.out.1; have h3 := bin_len_le (show y' - x' ≤ y' by omega); omega
                            clear g2 g3
                            go_wp2_with fail
                            go_roundw
                            case rel => exact ⟨x', y' - x', _, n4, _, c4, _, A4, hn4, hn44, rfl, rfl, Lib.hid (Or.inl HXO.out), HA8, HB8, HH, HBW8⟩
                            case measure => rw [HA8.out.rdv, HB8.out.rdv, HMA.out, HMB.out]; omega
                          · rw [show decide (x' < y') = false from decide_eq_false hlt] at HLS
                            have HH := Lib.hid (show Nat.gcd (x' - y') y' = g by rw [gcd_more (by omega)]; exact HGx.out)
                            clear HGx
                            go_wp2_with fail
                            refine HLS.out.mono ?_
                            rintro e w7 ⟨rfl, hg⟩
                            have HA7 := Lib.hid (HA.out.keep hg.below)
                            have HB7 := Lib.hid (HB.out.keep hg.below)
                            have HBW7 := Lib.hid (HBW.out.trans (hg.below.mono HBW.out.size))
                            have HMN := Lib.hid (minus_sl HA7.out HB7.out (by omega) (by omega))
                            clear hg
                            go_wp2_with fail
                            refine HMN.out.mono ?_
                            rintro e w8 ⟨A4, n4, c4, rfl, g2, g3⟩
                            have HB8 := Lib.hid (HB7.out.keep g3)
                            have HA8 := Lib.hid g2
                            have HBW8 := Lib.hid (HBW7.out.trans (g3.mono HBW7.out.size))
                            have hn44 : n4 ≤ 400 := by have h1 := g2.1; have h2 := HA.out.1; have h3 := bin_len_le (show x' - y' ≤ x' by omega); omega
                            clear g2 g3
                            go_wp2_with fail
                            go_roundw
                            case rel => exact ⟨x' - y', y', n4, _, c4, _, A4, _, hn44, hm4, rfl, rfl, Lib.hid (Or.inr HYO.out), HA8, HB8, HH, HBW8⟩
                            case measure => rw [HA8.out.rdv, HB8.out.rdv, HMA.out, HMB.out]; omega
          · have hyo : y % 2 = 1 := by omega
            obtain ⟨b, off, n, d, rfl, rfl, rfl, hc, HA'⟩ := HA.out.even hx (by omega)
            obtain ⟨b', off', rfl, hm1, hc'⟩ := HB.out.odd hyo
            clear hxy hxo hyo HA'
            go_wp2_with fail
            go_loopw [0, 1] (fun va vb wr => ∃ (x y n m c c' : Nat) (A B : Option Addr), n ≤ 400 ∧ m ≤ 400 ∧ va = .slice A n c ∧ vb = .slice B m c' ∧ Hid (x % 2 = 1 ∨ y % 2 = 1) ∧ Hid (Sl wr A n c x) ∧ Hid (Sl wr B m c' y) ∧ Hid (Nat.gcd x y = g) ∧ Hid (Below w.heap.size w wr)) (fun va vb wr => rdv wr va + rdv wr vb)
            case atStart => exact ⟨x, y, _, _, _, _, _, _, by omega, by omega, rfl, rfl, HODD, HA, HB, HGx, Lib.hid (Below.refl _ _)⟩
            case round =>
              clear HA HB HGx HODD hn4 hm4 hx hy
              obtain ⟨x, y, n, m, c, c', A, B, hn4, hm4, rfl, rfl, HODD, HA, HB, HGx, HBW⟩ := hrel
              have HMA := Lib.hid (show rdv wr (.slice A n c) = x from HA.out.rdv)
              have HMB := Lib.hid (show rdv wr (.slice B m c') = y from HB.out.rdv)
              by_cases hx : x = 0
              · have hy : y ≠ 0 := by have h := HODD.out; rw [hx] at h; omega
                obtain rfl : n = 0 := by have := HA.out.1; rw [hx, bin_zero] at this; exact this
                have HGV : Hid (y = g) := Lib.hid (by rw [← HGx.out, hx, Nat.gcd_zero_left])
                obtain ⟨ad, rfl⟩ := HB.out.some hy
                have HNZ := Lib.hid (show g ≠ 0 by rw [← HGV.out]; exact hy)
                clear hx hy
                go_wp2_with (first | (at_make; refine wpList_make_full _ rfl _ _ 45 rfl wr.heap.size 3 i0 _ 1 Tryd.underlying45 hi hz0 hz1 .i64 .i64 _ _ t rfl rfl rfl rfl (by rw [hz2]; omega) (by unfold maxLen; omega) (Nat.le_refl _) ?_; intro w1 hown hgrow; have HOW : Hid (OwnN wr (List.replicate t 0) (.slice (some ⟨wr.heap.size, 0, none⟩) t t) w1) := Lib.hid ⟨by rw [made_zeros] at hown; rw [List.length_replicate]; exact hown, (Below.refl _ _).grown hgrow (Nat.le_refl _) (fun k hk => by cases hk)⟩; have HNW := Lib.hid (rd_plain (HB.out.keep HOW.out.2).2.2); have HOR : Hid (w1.ownsRow wr.heap.size 3 1 (.slice (some ⟨wr.heap.size, 0, none⟩) t t) t (encN (List.replicate t 0))) := Lib.hid (by rw [made_zeros] at hown; exact hown); clear hown hgrow) | (at_builtin; refine wpList_append_own _ rfl _ _ 45 rfl wr.heap.size 3 i0 _ 1 8 Tryd.underlying45 hi hz0 hz1 hz2 rfl (by decide) _ t (encN (List.replicate t 0)) rfl HOR.out ad m c' (encN (bin y)) rfl (by rw [encN_len, HB.out.1]; simp) HNW.out (encN_one _) (by unfold maxLen; omega) (by omega) HOW.out.2.size ?_; intro v' w5 hown' hgrow' _))
                have HP : Hid (GPost (Nat.gcd X Y) w (.returned v') w5) := Lib.hid (by rw [HGG.out]; rw [HGV.out] at hown'; exact own_twos HNZ.out (by rw [← HGV.out]; exact HB.out.1) HBW.out HOW.out hown' hgrow')
                clear hown' hgrow'
                go_wp2_with fail
                go_ret
                exact HP.out
              · by_cases hy : y = 0
                · obtain rfl : m = 0 := by have := HB.out.1; rw [hy, bin_zero] at this; exact this
                  have hn1 : 0 < n := by have := HA.out.1; rw [bin_pos hx, List.length_cons] at this; omega
                  have HGV : Hid (x = g) := Lib.hid (by rw [← HGx.out, hy, Nat.gcd_zero_right])
                  obtain ⟨ad, rfl⟩ := HA.out.some hx
                  have HNZ := Lib.hid (show g ≠ 0 by rw [← HGV.out]; exact hx)
                  clear hx hy
                  go_wp2_with (first | (at_make; refine wpList_make_full _ rfl _ _ 45 rfl wr.heap.size 3 i0 _ 1 Tryd.underlying45 hi hz0 hz1 .i64 .i64 _ _ t rfl rfl rfl rfl (by rw [hz2]; omega) (by unfold maxLen; omega) (Nat.le_refl _) ?_; intro w1 hown hgrow; have HOW : Hid (OwnN wr (List.replicate t 0) (.slice (some ⟨wr.heap.size, 0, none⟩) t t) w1) := Lib.hid ⟨by rw [made_zeros] at hown; rw [List.length_replicate]; exact hown, (Below.refl _ _).grown hgrow (Nat.le_refl _) (fun k hk => by cases hk)⟩; have HNW := Lib.hid (rd_plain (HA.out.keep HOW.out.2).2.2); have HOR : Hid (w1.ownsRow wr.heap.size 3 1 (.slice (some ⟨wr.heap.size, 0, none⟩) t t) t (encN (List.replicate t 0))) := Lib.hid (by rw [made_zeros] at hown; exact hown); clear hown hgrow) | (at_builtin; refine wpList_append_own _ rfl _ _ 45 rfl wr.heap.size 3 i0 _ 1 8 Tryd.underlying45 hi hz0 hz1 hz2 rfl (by decide) _ t (encN (List.replicate t 0)) rfl HOR.out ad n c (encN (bin x)) rfl (by rw [encN_len, HA.out.1]; simp) HNW.out (encN_one _) (by unfold maxLen; omega) (by omega) HOW.out.2.size ?_; intro v' w5 hown' hgrow' _))
                  have HP : Hid (GPost (Nat.gcd X Y) w (.returned v') w5) := Lib.hid (by rw [HGG.out]; rw [HGV.out] at hown'; exact own_twos HNZ.out (by rw [← HGV.out]; exact HA.out.1) HBW.out HOW.out hown' hgrow')
                  clear hown' hgrow'
                  go_wp2_with fail
                  go_ret
                  exact HP.out
                · have hn1 : 0 < n := by have := HA.out.1; rw [bin_pos hx, List.length_cons] at this; omega
                  have hm1 : 0 < m := by have := HB.out.1; rw [bin_pos hy, List.length_cons] at this; omega
                  obtain ⟨wo, hwo⟩ : ∃ wo : World, wo = wr := ⟨_, rfl⟩
                  subst hwo
                  have hx0 : 0 < x := by omega
                  have hy0 : 0 < y := by omega
                  clear hx hy
                  go_wp2_with fail
                  go_loop [0] (fun va => ∃ (x' n c : Nat) (A : Option Addr), 0 < x' ∧ x' ≤ x ∧ 0 < n ∧ n ≤ 400 ∧ va = .slice A n c ∧ Hid (x' % 2 = 1 ∨ y % 2 = 1) ∧ Hid (Sl wo A n c x') ∧ Hid (Nat.gcd x' y = g)) (fun va => lenS va)
                  case atStart => exact ⟨x, n, c, A, hx0, Nat.le_refl _, hn1, hn4, rfl, HODD, HA, HGx⟩
                  case round =>
                    clear HODD HA HGx hn4 hn1
                    obtain ⟨x', n', c2, A', hx0', hxx, hn1, hn4, rfl, HODD, HA, HGx⟩ := hrel
                    by_cases hxe : x' % 2 = 0
                    · have HH := Lib.hid (half_left HGx.out HODD.out hxe)
                      obtain ⟨b, off, n2, d, rfl, rfl, rfl, hc, HA'⟩ := HA.out.even (by omega) hxe
                      have HA'' := Lib.hid HA'
                      clear HA' HA HODD HGx
                      go_wp2_with fail
                      go_round
                      case rel => exact ⟨x' / 2, n2 + 1, d + 1, _, by omega, by omega, by omega, by omega, by go_num, Lib.hid HH.out.2, HA'', Lib.hid HH.out.1⟩
                      case measure => simp [lenS]
                    · obtain ⟨b, off, rfl, _, hc⟩ := HA.out.odd (by omega)
                      have HXO := Lib.hid (show x' % 2 = 1 by omega)
                      clear hxe HODD
                      go_wp2_with fail
                      go_loop [1] (fun vb => ∃ (y' m c' : Nat) (B : Option Addr), 0 < y' ∧ y' ≤ y ∧ 0 < m ∧ m ≤ 400 ∧ vb = .slice B m c' ∧ Hid (Sl wo B m c' y') ∧ Hid (Nat.gcd x' y' = g)) (fun vb => lenS vb)
                      case atStart => exact ⟨y, m, c', B, hy0, Nat.le_refl _, hm1, hm4, rfl, HB, HGx⟩
                      case round =>
                        clear HB HGx hm4 hm1
                        obtain ⟨y', m', c3, B', hy0', hyy, hm1, hm4, rfl, HB, HGx⟩ := hrel
                        by_cases hye : y' % 2 = 0
                        · have HH := Lib.hid (half_right HGx.out HXO.out hye)
                          obtain ⟨b2, off2, n2, d, rfl, rfl, rfl, hc2, HB'⟩ := HB.out.even (by omega) hye
                          have HB'' := Lib.hid HB'
                          clear HB' HB HGx
                          go_wp2_with fail
                          go_round
                          case rel => exact ⟨y' / 2, n2 + 1, d + 1, _, by omega, by omega, by omega, by omega, by go_num, HB'', HH⟩
                          case measure => simp [lenS]
                        · obtain ⟨b2, off2, rfl, _, hc2⟩ := HB.out.odd (by omega)
                          have HYO := Lib.hid (show y' % 2 = 1 by omega)
                          clear hye
                          have HLS := Lib.hid (less_sl HA.out HB.out (by omega))
                          by_cases hlt : x' < y'
                          · rw [show decide (x' < y') = true from decide_eq_true hlt] at HLS
                            have HH := Lib.hid (show Nat.gcd x' (y' - x') = g by rw [gcd_less (by omega)]; exact HGx.out)
                            clear HGx
                            go_wp2_with fail
                            refine HLS.out.mono ?_
                            rintro e w7 ⟨rfl, hg⟩
                            have HA7 := Lib.hid (HA.out.keep hg.below)
                            have HB7 := Lib.hid (HB.out.keep hg.below)
                            have HBW7 := Lib.hid (HBW.out.trans (hg.below.mono HBW.out.size))
                            have HMN := Lib.hid (minus_sl HB7.out HA7.out (by omega) (by omega))
                            clear hg
                            go_wp2_with fail
                            refine HMN.out.mono ?_
                            rintro e w8 ⟨A4, n4, c4, rfl, g2, g3⟩
                            have HA8 := Lib.hid (HA7.out.keep g3)
                            have HB8 := Lib.hid g2
                            have HBW8 := Lib.hid (HBW7.out.trans (g3.mono HBW7.out.size))
                            have hn44 : n4 ≤ 400 := by have h1 := g2.1; have h2 := HB.out.1; have h3 := bin_len_le (show y' - x' ≤ y' by omega); omega
                            clear g2 g3
                            go_wp2_with fail
                            go_roundw
                            case rel => exact ⟨x', y' - x', _, n4, _, c4, _, A4, hn4, hn44, rfl, rfl, Lib.hid (Or.inl HXO.out), HA8, HB8, HH, HBW8⟩
                            case measure => rw [HA8.out.rdv, HB8.out.rdv, HMA.out, HMB.out]; omega
                          · rw [show decide (x' < y') = false from decide_eq_false hlt] at HLS
                            have HH := Lib.hid (show Nat.gcd (x' - y') y' = g by rw [gcd_more (by omega)]; exact HGx.out)
                            clear HGx
                            go_wp2_with fail
                            refine HLS.out.mono ?_
                            rintro e w7 ⟨rfl, hg⟩
                            have HA7 := Lib.hid (HA.out.keep hg.below)
                            have HB7 := Lib.hid (HB.out.keep hg.below)
                            have HBW7 := Lib.hid (HBW.out.trans (hg.below.mono HBW.out.size))
                            have HMN := Lib.hid (minus_sl HA7.out HB7.out (by omega) (by omega))
                            clear hg
                            go_wp2_with fail
                            refine HMN.out.mono ?_
                            rintro e w8 ⟨A4, n4, c4, rfl, g2, g3⟩
                            have HB8 := Lib.hid (HB7.out.keep g3)
                            have HA8 := Lib.hid g2
                            have HBW8 := Lib.hid (HBW7.out.trans (g3.mono HBW7.out.size))
                            have hn44 : n4 ≤ 400 := by have h1 := g2.1; have h2 := HA.out.1; have h3 := bin_len_le (show x' - y' ≤ x' by omega); omega
                            clear g2 g3
                            go_wp2_with fail
                            go_roundw
                            case rel => exact ⟨x' - y', y', n4, _, c4, _, A4, _, hn44, hm4, rfl, rfl, Lib.hid (Or.inr HYO.out), HA8, HB8, HH, HBW8⟩
                            case measure => rw [HA8.out.rdv, HB8.out.rdv, HMA.out, HMB.out]; omega
end Go.Proofs.YtdmddfhjfkdlnaaDoor
