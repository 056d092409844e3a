/- The contract of the reference's over. Under no condition. -/
import Derived.Test.YtdmddfhjfkdlnaaDoorRf
import Derived.Test.YtdmddfhjfkdlnaaDoorRd
import Derived.Laws.AppendOwnNone
namespace Go.Proofs.YtdmddfhjfkdlnaaDoor
open Go.RowKit

/-- one step of a division -/
theorem over_step (x y m : Nat) (hy : 0 < y) : (x / 2 ^ m % 2 + 2 * (x / 2 ^ (m + 1) % y) < y → x / 2 ^ m % y = x / 2 ^ m % 2 + 2 * (x / 2 ^ (m + 1) % y) ∧ x / 2 ^ m / y = 2 * (x / 2 ^ (m + 1) / y))
    ∧ (y ≤ x / 2 ^ m % 2 + 2 * (x / 2 ^ (m + 1) % y) → x / 2 ^ m % y = x / 2 ^ m % 2 + 2 * (x / 2 ^ (m + 1) % y) - y ∧ x / 2 ^ m / y = 2 * (x / 2 ^ (m + 1) / y) + 1) := by
  rw [sh_succ]
  generalize x / 2 ^ m = u
  have h1 := Nat.div_add_mod (u / 2) y
  have h2 := Nat.mod_lt (u / 2) hy
  generalize u / 2 % y = r at *
  generalize u / 2 / y = q at *
  have e : u = (u % 2 + 2 * r) + y * (2 * q) := by
    have : y * (2 * q) = 2 * (y * q) := by rw [Nat.mul_left_comm]
    omega
  have hb2 : u % 2 < 2 := Nat.mod_lt _ (by decide)
  clear h1
  generalize u % 2 = b at *
  constructor
  · intro h
    constructor
    · rw [e, Nat.add_mul_mod_self_left, Nat.mod_eq_of_lt h]
    · rw [e, Nat.add_mul_div_left _ _ hy, Nat.div_eq_of_lt h, Nat.zero_add]
  · intro h
    have e' : u = (b + 2 * r - y) + y * (2 * q + 1) := by
      have : y * (2 * q + 1) = y * (2 * q) + y := by rw [Nat.mul_add, Nat.mul_one]
      omega
    have hb : b + 2 * r - y < y := by omega
    constructor
    · rw [e', Nat.add_mul_mod_self_left, Nat.mod_eq_of_lt hb]
    · rw [e', Nat.add_mul_div_left _ _ hy, Nat.div_eq_of_lt hb, Nat.zero_add]

theorem RowN.lt {w0 wr : World} {g L : Nat} {o : List Nat} (h : RowN w0 g L o wr) : g < wr.heap.size := by
  obtain ⟨⟨h1, _⟩, _⟩ := h
  rcases h1.2 with ⟨h', _⟩ | ⟨g', cap', cur, h', hb, hg, _⟩
  · cases h'
  · simp only [Value.slice.injEq, Option.some.injEq, Addr.mk.injEq, and_true] at h'
    obtain ⟨rfl, _⟩ := h'
    rcases Nat.lt_or_ge g wr.heap.size with c | c
    · exact c
    · rw [Array.getElem?_eq_none c] at hg; cases hg
theorem RowN.keep {w0 wr w' : World} {g L : Nat} {o : List Nat} (h : RowN w0 g L o wr) (hb : Below wr.heap.size wr w') : RowN w0 g L o w' := by
  have hg := h.lt
  obtain ⟨⟨h1, h2⟩, h3⟩ := h
  refine ⟨⟨?_, h2.trans (hb.mono h2.size)⟩, h3⟩
  refine ⟨h1.1, ?_⟩
  rcases h1.2 with ⟨h', _⟩ | ⟨g', cap', cur, h', hb', hg', r1, r2, r3, r4⟩
  · cases h'
  · refine Or.inr ⟨g', cap', cur, h', hb', ?_, r1, r2, r3, r4⟩
    simp only [Value.slice.injEq, Option.some.injEq, Addr.mk.injEq, and_true] at h'
    rw [hb.block g' (by omega)]; exact hg'
theorem RdN.aside {w : World} {A : Option Addr} {l : List Nat} (h : RdN w A l) {g j : Nat} {v : Value} (hf : ∀ b off, A = some ⟨b, off, none⟩ → g < b) : RdN (w.setCell ⟨g, j, none⟩ v) A l := by
  rcases h with h | ⟨b, off, e, hlt, hc⟩
  · exact Or.inl h
  · have hgb := hf b off e
    refine Or.inr ⟨b, off, e, by simpa using hlt, fun i hi => ?_⟩
    rw [World.cell?_setCell_other _ _ _ _ (by intro e; injection e with e1 e2; omega)]
    exact hc i hi
theorem encN_one (l : List Nat) : ∀ u ∈ encN l, u.oneCell' = true := by
  intro u hu
  unfold encN at hu
  obtain ⟨d, _, rfl⟩ := List.mem_map.1 hu
  rfl
theorem rd_cells {w : World} {ad : Addr} {l : List Nat} (h : RdN w (some ad) l) (o : Obj) : ∀ j u, (encN l)[j]? = some u → (w.alloc o).cell? (ad.add j) = some u := by
  intro j u hu
  have hj : j < l.length := by
    rcases Nat.lt_or_ge j l.length with c | c
    · exact c
    · rw [List.getElem?_eq_none (by rw [encN_len]; exact c)] at hu; cases hu
  rcases h with h | ⟨b, off, e, hlt, hc⟩
  · rw [h] at hj; simp at hj
  · obtain rfl := Option.some.inj e
    rw [encN_at l j hj] at hu
    rw [Addr.add_lit, ← hu]
    exact Lib.cell?_alloc_some _ (hc j hj)
/-- digits with one more ahead, of the call's own -/
theorem own_cons {wr w5 : World} {p : Nat} {l : List Nat} {v' : Value} {n : Nat} (hn : n = l.length) (hown : w5.ownsRow wr.heap.size 3 1 v' (1 + n) ([.int .i64 (p : Int)] ++ encN l)) (hb : Below wr.heap.size wr w5) : OwnN wr (p :: l) v' w5 := by
  refine ⟨?_, hb⟩
  rw [List.length_cons, ← hn, Nat.add_comm]; exact hown
theorem trm_cons (p r : Nat) : trm (p :: bin r) = bin (p + 2 * r) := by unfold trm; rw [val, val_bin]

/-- what holds at the head of a round: the rest, and the quotient's digits from k on -/
def OvRel (w : World) (lx x y k n : Nat) (R : Option Addr) (cR : Nat) (wr : World) : Prop :=
  n = (bin (x / 2 ^ k % y)).length ∧ (n ≤ cR ∧ (R = none → cR = 0)) ∧ RdN wr R (bin (x / 2 ^ k % y)) ∧ (∀ b off, R = some ⟨b, off, none⟩ → w.heap.size < b) ∧
  ∃ o : List Nat, Dg o ∧ val o = 2 ^ k * (x / 2 ^ k / y) ∧ (∀ j, j < k → o[j]? = some 0) ∧ RowN w w.heap.size lx o wr

set_option maxHeartbeats 8000000 in
theorem over_any' (A B : Option Addr) (c c' : Nat) (x y : Nat) (w : World) (hy : 0 < y) (hr : RdN w A (bin x)) (hr' : RdN w B (bin y)) (hl : (bin x).length ≤ 400) (hl' : (bin y).length ≤ 400) :
    Calls Tryd.prog 51 #[.slice A (bin x).length c, .slice B (bin y).length c'] w (DPost (bin (x / y)) w) := by
  obtain ⟨i0, hi, hz0, hz1, hz2⟩ := info_parts info3
  have HR := Lib.hid (fun (i : Nat) (h : i < (bin x).length) => hr.digit h)
  have HRB := Lib.hid hr'
  have HST := Lib.hid (over_step x y)
  have HX0 := Lib.hid (show x / 2 ^ (bin x).length = 0 from Nat.div_eq_of_lt (by have := val_lt (bin x) (bin_dg x); rwa [val_bin] at this))
  clear hr hr'
  obtain ⟨lx, hlx⟩ : ∃ lx, (bin x).length = lx := ⟨_, rfl⟩
  rw [hlx] at HR HX0 hl ⊢
  obtain ⟨ly, hly⟩ : ∃ ly, (bin y).length = ly := ⟨_, rfl⟩
  have HLY := Lib.hid hly
  rw [hly] at hl' ⊢
  clear hlx hly
  go_enter Tryd.func51, Tryd.ntmps51
  go_wp2_with (at_make; refine wpList_make_full _ rfl _ _ 45 rfl w.heap.size 3 i0 _ 1 Tryd.underlying45 hi hz0 hz1 .i64 .i64 _ _ lx rfl rfl rfl rfl (by rw [hz2]; omega) (by unfold maxLen; omega) (Nat.le_refl _) ?_; intro w1 hown hgrow)
  have HRW : Hid (RowN w w.heap.size lx (List.replicate lx 0) w1) := Lib.hid ⟨⟨by rw [made_zeros] at hown; rw [List.length_replicate]; exact hown, (Below.refl _ _).grown hgrow (Nat.le_refl _) (fun k hk => by cases hk)⟩, List.length_replicate⟩
  clear hown hgrow
  go_wp2_with fail
  go_loopw [6, 7] (fun rs t wr => ∃ (k n cR : Nat) (R : Option Addr), k ≤ lx ∧ n ≤ 400 ∧ t = .int .i64 ((k : Int) - 1) ∧ rs = .slice R n cR ∧ Hid (OvRel w lx x y k n R cR wr)) (fun _ t _ => (intOf t + 1).toNat)
  case atStart => exact ⟨lx, 0, 0, none, Nat.le_refl _, by omega, rfl, rfl, Lib.hid ⟨by rw [HX0.out]; simp [bin_zero], ⟨Nat.le_refl _, fun _ => rfl⟩, Or.inl (by rw [HX0.out]; simp [bin_zero]), (fun b off e => by cases e), _, dg_zeros _, by rw [val_zeros, HX0.out]; simp, (fun j hj => by rw [List.getElem?_replicate, if_pos hj]), HRW.out⟩⟩
  case round =>
    obtain ⟨k, n, cR, R, hk, hn, rfl, rfl, HO⟩ := hrel
    clear HRW
    rcases Nat.eq_zero_or_pos k with h0 | h0
    · subst h0
      obtain ⟨_, _, _, _, o, hdg, hvl, _, hrow⟩ := HO.out
      have HRO := Lib.hid hrow
      have HDG := Lib.hid hdg
      have HF := Lib.hid (show trm o = bin (x / y) by unfold trm; rw [hvl]; simp)
      have hol : o.length ≤ 1000 := by have := hrow.2; omega
      have HB := Lib.hid hrow.1.2
      obtain ⟨A', c'', hA', hc, hrd⟩ := hrow.1.rd
      have HT := Lib.hid (trim_any A' c'' o wr hdg hrd hol hc.1)
      rw [← hA', HF.out] at HT
      have HCC := Lib.hid (show (bin (x / y)).length ≤ c'' ∧ (A' = none → c'' = 0) ∧ ∀ b off, A' = some ⟨b, off, none⟩ → w.heap.size ≤ b from ⟨by rw [← HF.out]; exact Nat.le_trans (trm_len _ hdg) hc.1, hc.2⟩)
      clear hrd hA' hc hrow hdg hvl HO
      have d1 : decide ((0 : Int) ≤ ((0 : Nat) : Int) - 1) = false := by decide
      go_wp2_with fail
      refine HT.out.mono ?_
      rintro e w2 ⟨rfl, g2, rfl⟩
      have HG := Lib.hid g2
      clear g2
      go_wp2_with fail
      go_ret
      exact ⟨A', c'', rfl, HCC.out, HG.out, HB.out⟩
    · obtain ⟨m, rfl⟩ : ∃ m, k = m + 1 := ⟨k - 1, by omega⟩
      obtain ⟨b, off, rfl, hlt, hcell⟩ := HR.out m (by omega)
      obtain ⟨o1, o2, o3, o4, o, hdg, hvl, hz, hrow⟩ := HO.out
      replace hcell := cell_later hrow.1.2 hcell
      have HRO := Lib.hid hrow
      have HRD := Lib.hid o3
      have HON := Lib.hid o1
      have HC0 := Lib.hid o2.2
      have HDG := Lib.hid hdg
      have HVL := Lib.hid hvl
      have HZ := Lib.hid hz
      have hgl : w.heap.size < wr.heap.size := hrow.lt
      obtain ⟨p, hp⟩ : ∃ p, p = x / 2 ^ m % 2 := ⟨_, rfl⟩
      rw [← hp] at hcell
      have hp1 : p ≤ 1 := by omega
      have HP := Lib.hid hp
      have HOL := Lib.hid (World.ownsRow_lit (base := wr.heap.size) (e := 3) (size := 1) wr #[.int .i64 (p : Int)] 1 (Nat.le_refl _) (by unfold maxLen; omega) rfl)
      clear hp hrow o1 o2 o3 o4 hvl hz hdg
      have HDC : Hid (Dg (p :: bin (x / 2 ^ (m + 1) % y))) := Lib.hid (fun d hd => by
        rcases List.mem_cons.1 hd with rfl | hd
        · exact hp1
        · exact bin_dg _ d hd)
      have HTL : Hid (p + 2 * (x / 2 ^ (m + 1) % y) < 2 ^ (ly + 1)) := Lib.hid (by
        have h1 := Nat.mod_lt (x / 2 ^ (m + 1)) hy
        have h2 := val_lt (bin y) (bin_dg y)
        rw [val_bin, HLY.out] at h2
        have h3 : 2 ^ (ly + 1) = 2 ^ ly * 2 := Nat.pow_succ ..
        omega)
      cases R with
      | none =>
        have hb0 : bin (x / 2 ^ (m + 1) % y) = [] := by
          rcases HRD.out with h | ⟨b, off, e, _⟩
          · exact h
          · cases e
        have HB0 := Lib.hid hb0
        obtain rfl : n = 0 := by rw [HON.out, hb0]; rfl
        obtain rfl : cR = 0 := HC0.out rfl
        clear hb0
        have HOW0 : Hid (OwnN wr (p :: bin (x / 2 ^ (m + 1) % y)) (.slice (some ⟨wr.heap.size, 0, none⟩) 1 1) (wr.alloc (.cells #[.int .i64 (p : Int)] 3))) := Lib.hid ⟨by rw [HB0.out]; exact HOL.out, (Below.refl _ _).alloc (Nat.le_refl _) _⟩
        go_wp2_with (at_builtin; refine wpList_append_own_none rfl _ _ 45 rfl wr.heap.size 3 i0 1 Tryd.underlying45 hi _ 1 [.int .i64 (p : Int)] rfl HOL.out rfl ?_)
        obtain ⟨v', hv'⟩ : ∃ v' : Value, v' = .slice (some ⟨wr.heap.size, 0, none⟩) 1 1 := ⟨_, rfl⟩
        obtain ⟨w5, hw5⟩ : ∃ w5 : World, w5 = wr.alloc (.cells #[.int .i64 (p : Int)] 3) := ⟨_, rfl⟩
        rw [← hv', ← hw5] at HOW0
        rw [← hv', ← hw5]
        have HOW := HOW0
        clear hv' hw5 HOW0 HOL
        obtain ⟨A', c3, rfl, hc3, hrd3⟩ := HOW.out.rd
        have HB5 := Lib.hid HOW.out.2
        have HT := Lib.hid (trim_any A' c3 _ w5 HDC.out hrd3 (by rw [List.length_cons, ← HON.out]; omega) hc3.1)
        rw [trm_cons] at HT
        have HC3 := Lib.hid (show (bin (p + 2 * (x / 2 ^ (m + 1) % y))).length ≤ c3 ∧ (A' = none → c3 = 0) ∧ ∀ b off, A' = some ⟨b, off, none⟩ → w.heap.size < b from ⟨by rw [← trm_cons]; exact Nat.le_trans (trm_len _ HDC.out) hc3.1, hc3.2.1, fun b off e => Nat.lt_of_lt_of_le hgl (hc3.2.2 b off e)⟩)
        have HO5 := Lib.hid (HRO.out.keep HB5.out)
        clear hrd3 hc3 HOW HRO
        refine HT.out.mono ?_
        rintro e w6 ⟨rfl, g2, rfl⟩
        have HLS := Lib.hid (less_at (c := c3) (c' := c') rfl HLY.out.symm w5 g2 (HRB.out.keep HO5.out.1.2) (by have := bin_len (p + 2 * (x / 2 ^ (m + 1) % y)) (ly + 1) HTL.out; omega))
        have HG := Lib.hid g2
        clear g2 HT
        by_cases hT : p + 2 * (x / 2 ^ (m + 1) % y) < y
        · rw [show decide (p + 2 * (x / 2 ^ (m + 1) % y) < y) = true from decide_eq_true hT] at HLS
          have HE := Lib.hid ((HST.out m hy).1 (by rw [← HP.out]; exact hT))
          have hnl : (bin (p + 2 * (x / 2 ^ (m + 1) % y))).length ≤ 400 := by have := bin_len (p + 2 * (x / 2 ^ (m + 1) % y)) ly (by have h2 := val_lt (bin y) (bin_dg y); rw [val_bin, HLY.out] at h2; omega); omega
          have HTT := Lib.hid (show x / 2 ^ m % y = p + 2 * (x / 2 ^ (m + 1) % y) by rw [HE.out.1, ← HP.out])
          generalize p + 2 * (x / 2 ^ (m + 1) % y) = T at *
          go_wp2_with fail
          refine HLS.out.mono ?_
          rintro e w7 ⟨rfl, hg⟩
          have HO7 := Lib.hid (HO5.out.keep hg.below)
          have HG7 := Lib.hid (HG.out.keep hg.below)
          clear hg
          go_wp2_with fail
          go_roundw
          case rel => exact ⟨m, _, c3, A', by omega, hnl, by go_num, rfl, Lib.hid ⟨by rw [HTT.out], ⟨HC3.out.1, HC3.out.2.1⟩, by rw [HTT.out]; exact HG7.out, HC3.out.2.2, o, HDG.out, by rw [HVL.out, HE.out.2, Nat.pow_succ, Nat.mul_assoc], fun j hj => HZ.out j (by omega), HO7.out⟩⟩
          case measure => simp [intOf]
        · rw [show decide (p + 2 * (x / 2 ^ (m + 1) % y) < y) = false from decide_eq_false hT] at HLS
          have HE := Lib.hid ((HST.out m hy).2 (by rw [← HP.out]; omega))
          have HTT := Lib.hid (show x / 2 ^ m % y = p + 2 * (x / 2 ^ (m + 1) % y) - y by rw [HE.out.1, ← HP.out])
          have hnl : (bin (p + 2 * (x / 2 ^ (m + 1) % y) - y)).length ≤ 400 := by
            have h1 := Nat.mod_lt (x / 2 ^ m) hy
            have := bin_len (p + 2 * (x / 2 ^ (m + 1) % y) - y) ly (by rw [← HTT.out]; have h2 := val_lt (bin y) (bin_dg y); rw [val_bin, HLY.out] at h2; omega)
            omega
          have hTy : y ≤ p + 2 * (x / 2 ^ (m + 1) % y) := by omega
          have hTl : (bin (p + 2 * (x / 2 ^ (m + 1) % y))).length ≤ 1000 := by have := bin_len (p + 2 * (x / 2 ^ (m + 1) % y)) (ly + 1) HTL.out; omega
          clear hT
          generalize p + 2 * (x / 2 ^ (m + 1) % y) = T at *
          have hmo : m < o.length := by have := HO5.out.2; omega
          have hom : o[m] = 0 := by have := HZ.out m (by omega); rw [List.getElem?_eq_getElem hmo] at this; exact Option.some.inj this
          have HVS := Lib.hid (val_set o m 1 hmo)
          go_wp2_with fail
          refine HLS.out.mono ?_
          rintro e w7 ⟨rfl, hg⟩
          have HO7 := Lib.hid (HO5.out.keep hg.below)
          have HG7 := Lib.hid (HG.out.keep hg.below)
          clear hg
          have HMN := Lib.hid (minus_any' A' B c3 c' T y w7 hTy HG7.out (HRB.out.keep HO7.out.1.2) hTl)
          rw [HLY.out] at HMN
          go_wp2_with fail
          refine HMN.out.mono ?_
          rintro e w8 ⟨A4, c4, rfl, g1, g2, g3⟩
          have HO8 := Lib.hid (HO7.out.keep g3)
          have hcm := HO8.out.cell hmo
          have hfm := HO8.out.free m
          rw [hom] at hcm
          have HOM := Lib.hid hom
          have HG1 := Lib.hid g1
          have HG2 := Lib.hid g2
          have HLT := Lib.hid (show w.heap.size < w7.heap.size from HO7.out.lt)
          have HVN := Lib.hid (show val (o.set m 1) = 2 ^ m * (x / 2 ^ m / y) by
            have a := HVS.out
            rw [HOM.out, HVL.out] at a
            rw [HE.out.2]
            generalize x / 2 ^ (m + 1) / y = qq at a ⊢
            rw [Nat.pow_succ, Nat.mul_assoc] at a
            rw [Nat.mul_add]
            simpa using a)
          have HPN := Lib.hid (HO8.out.put m 1)
          have HFN := Lib.hid (fun b off e => Nat.lt_of_lt_of_le HLT.out (HG1.out.2.2 b off e))
          have HRN := Lib.hid (HG2.out.aside (j := m) (v := .int .i64 ((1 : Nat) : Int)) HFN.out)
          clear g1 g2 g3 hom
          go_wp2_with fail
          go_roundw
          case rel => exact ⟨m, _, c4, A4, by omega, hnl, by go_num, rfl, Lib.hid ⟨by rw [HTT.out], ⟨HG1.out.1, HG1.out.2.1⟩, by rw [HTT.out]; exact HRN.out, HFN.out, _, HDG.out.set (Nat.le_refl _), HVN.out, (fun j hj => by rw [List.getElem?_set_ne (by omega)]; exact HZ.out j (by omega)), HPN.out⟩⟩
          case measure => simp [intOf]
      | some ad =>
        have HNW := Lib.hid (show ∀ j u, (encN (bin (x / 2 ^ (m + 1) % y)))[j]? = some u → (wr.alloc (.cells #[.int .i64 (p : Int)] 3)).cell? (ad.add j) = some u from rd_cells HRD.out _)
        go_wp2_with (at_builtin; refine wpList_append_own _ rfl _ _ 45 rfl wr.heap.size 3 i0 _ 1 8 Tryd.underlying45 hi hz0 hz1 hz2 rfl (by decide) _ 1 [.int .i64 (p : Int)] rfl HOL.out ad n cR (encN (bin (x / 2 ^ (m + 1) % y))) rfl (by rw [encN_len, HON.out]; simp) HNW.out (encN_one _) (by unfold maxLen; omega) (by omega) (by simp) ?_; intro v' w5 hown' hgrow' _)
        have HOW := Lib.hid (own_cons HON.out hown' (((Below.refl _ _).alloc (Nat.le_refl _) _).grown hgrow' (by simp) (fun k' hk' => by have h7 : some wr.heap.size = some k' := hk'; injection h7 with h7; omega)))
        clear hown' hgrow' HNW HOL
        obtain ⟨A', c3, rfl, hc3, hrd3⟩ := HOW.out.rd
        have HB5 := Lib.hid HOW.out.2
        have HT := Lib.hid (trim_any A' c3 _ w5 HDC.out hrd3 (by rw [List.length_cons, ← HON.out]; omega) hc3.1)
        rw [trm_cons] at HT
        have HC3 := Lib.hid (show (bin (p + 2 * (x / 2 ^ (m + 1) % y))).length ≤ c3 ∧ (A' = none → c3 = 0) ∧ ∀ b off, A' = some ⟨b, off, none⟩ → w.heap.size < b from ⟨by rw [← trm_cons]; exact Nat.le_trans (trm_len _ HDC.out) hc3.1, hc3.2.1, fun b off e => Nat.lt_of_lt_of_le hgl (hc3.2.2 b off e)⟩)
        have HO5 := Lib.hid (HRO.out.keep HB5.out)
        clear hrd3 hc3 HOW HRO
        refine HT.out.mono ?_
        rintro e w6 ⟨rfl, g2, rfl⟩
        have HLS := Lib.hid (less_at (c := c3) (c' := c') rfl HLY.out.symm w5 g2 (HRB.out.keep HO5.out.1.2) (by have := bin_len (p + 2 * (x / 2 ^ (m + 1) % y)) (ly + 1) HTL.out; omega))
        have HG := Lib.hid g2
        clear g2 HT
        by_cases hT : p + 2 * (x / 2 ^ (m + 1) % y) < y
        · rw [show decide (p + 2 * (x / 2 ^ (m + 1) % y) < y) = true from decide_eq_true hT] at HLS
          have HE := Lib.hid ((HST.out m hy).1 (by rw [← HP.out]; exact hT))
          have hnl : (bin (p + 2 * (x / 2 ^ (m + 1) % y))).length ≤ 400 := by have := bin_len (p + 2 * (x / 2 ^ (m + 1) % y)) ly (by have h2 := val_lt (bin y) (bin_dg y); rw [val_bin, HLY.out] at h2; omega); omega
          have HTT := Lib.hid (show x / 2 ^ m % y = p + 2 * (x / 2 ^ (m + 1) % y) by rw [HE.out.1, ← HP.out])
          generalize p + 2 * (x / 2 ^ (m + 1) % y) = T at *
          go_wp2_with fail
          refine HLS.out.mono ?_
          rintro e w7 ⟨rfl, hg⟩
          have HO7 := Lib.hid (HO5.out.keep hg.below)
          have HG7 := Lib.hid (HG.out.keep hg.below)
          clear hg
          go_wp2_with fail
          go_roundw
          case rel => exact ⟨m, _, c3, A', by omega, hnl, by go_num, rfl, Lib.hid ⟨by rw [HTT.out], ⟨HC3.out.1, HC3.out.2.1⟩, by rw [HTT.out]; exact HG7.out, HC3.out.2.2, o, HDG.out, by rw [HVL.out, HE.out.2, Nat.pow_succ, Nat.mul_assoc], fun j hj => HZ.out j (by omega), HO7.out⟩⟩
          case measure => simp [intOf]
        · rw [show decide (p + 2 * (x / 2 ^ (m + 1) % y) < y) = false from decide_eq_false hT] at HLS
          have HE := Lib.hid ((HST.out m hy).2 (by rw [← HP.out]; omega))
          have HTT := Lib.hid (show x / 2 ^ m % y = p + 2 * (x / 2 ^ (m + 1) % y) - y by rw [HE.out.1, ← HP.out])
          have hnl : (bin (p + 2 * (x / 2 ^ (m + 1) % y) - y)).length ≤ 400 := by
            have h1 := Nat.mod_lt (x / 2 ^ m) hy
            have := bin_len (p + 2 * (x / 2 ^ (m + 1) % y) - y) ly (by rw [← HTT.out]; have h2 := val_lt (bin y) (bin_dg y); rw [val_bin, HLY.out] at h2; omega)
            omega
          have hTy : y ≤ p + 2 * (x / 2 ^ (m + 1) % y) := by omega
          have hTl : (bin (p + 2 * (x / 2 ^ (m + 1) % y))).length ≤ 1000 := by have := bin_len (p + 2 * (x / 2 ^ (m + 1) % y)) (ly + 1) HTL.out; omega
          clear hT
          generalize p + 2 * (x / 2 ^ (m + 1) % y) = T at *
          have hmo : m < o.length := by have := HO5.out.2; omega
          have hom : o[m] = 0 := by have := HZ.out m (by omega); rw [List.getElem?_eq_getElem hmo] at this; exact Option.some.inj this
          have HVS := Lib.hid (val_set o m 1 hmo)
          go_wp2_with fail
          refine HLS.out.mono ?_
          rintro e w7 ⟨rfl, hg⟩
          have HO7 := Lib.hid (HO5.out.keep hg.below)
          have HG7 := Lib.hid (HG.out.keep hg.below)
          clear hg
          have HMN := Lib.hid (minus_any' A' B c3 c' T y w7 hTy HG7.out (HRB.out.keep HO7.out.1.2) hTl)
          rw [HLY.out] at HMN
          go_wp2_with fail
          refine HMN.out.mono ?_
          rintro e w8 ⟨A4, c4, rfl, g1, g2, g3⟩
          have HO8 := Lib.hid (HO7.out.keep g3)
          have hcm := HO8.out.cell hmo
          have hfm := HO8.out.free m
          rw [hom] at hcm
          have HOM := Lib.hid hom
          have HG1 := Lib.hid g1
          have HG2 := Lib.hid g2
          have HLT := Lib.hid (show w.heap.size < w7.heap.size from HO7.out.lt)
          have HVN := Lib.hid (show val (o.set m 1) = 2 ^ m * (x / 2 ^ m / y) by
            have a := HVS.out
            rw [HOM.out, HVL.out] at a
            rw [HE.out.2]
            generalize x / 2 ^ (m + 1) / y = qq at a ⊢
            rw [Nat.pow_succ, Nat.mul_assoc] at a
            rw [Nat.mul_add]
            simpa using a)
          have HPN := Lib.hid (HO8.out.put m 1)
          have HFN := Lib.hid (fun b off e => Nat.lt_of_lt_of_le HLT.out (HG1.out.2.2 b off e))
          have HRN := Lib.hid (HG2.out.aside (j := m) (v := .int .i64 ((1 : Nat) : Int)) HFN.out)
          clear g1 g2 g3 hom
          go_wp2_with fail
          go_roundw
          case rel => exact ⟨m, _, c4, A4, by omega, hnl, by go_num, rfl, Lib.hid ⟨by rw [HTT.out], ⟨HG1.out.1, HG1.out.2.1⟩, by rw [HTT.out]; exact HRN.out, HFN.out, _, HDG.out.set (Nat.le_refl _), HVN.out, (fun j hj => by rw [List.getElem?_set_ne (by omega)]; exact HZ.out j (by omega)), HPN.out⟩⟩
          case measure => simp [intOf]
end Go.Proofs.YtdmddfhjfkdlnaaDoor
