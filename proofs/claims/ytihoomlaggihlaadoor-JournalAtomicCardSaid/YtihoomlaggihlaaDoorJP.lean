/- Plain facts on the digest, on sealed sectors and on torn texts. No program in sight. Under no condition. -/
/- Plain facts on numbers with leading zeros. No program in sight. Under no condition. -/
/- The disk and its sectors as plain data. No program in sight. Under no condition. -/
/- Heads, sectors and texts of a journal as plain data; what sectors open to; what a failure of power leaves. No program in sight. Under no condition. -/
/- What becomes of a journal's sectors: heads mended, records appended, a byte rotten, the power cut in the midst. No program in sight. Under no condition. -/
/- A byte of a journal's disk rots: it opens to the same, or not at all. No program in sight. Under no condition. -/
import Derived.Lib.ItoaNum
namespace Go.Proofs.YtihoomlaggihlaaDoor

theorem xs_inj {k : Nat} (hk : 1 ≤ k) {x y : Nat} (hx : x < 2 ^ 64) (hy : y < 2 ^ 64) (h : x ^^^ (x >>> k) = y ^^^ (y >>> k)) : x = y := by
  have key : ∀ n i, 64 ≤ i + n → x.testBit i = y.testBit i := by
    intro n
    induction n with
    | zero =>
      intro i hi
      rw [Nat.testBit_lt_two_pow (Nat.lt_of_lt_of_le hx (Nat.pow_le_pow_right (by decide) (by omega))), Nat.testBit_lt_two_pow (Nat.lt_of_lt_of_le hy (Nat.pow_le_pow_right (by decide) (by omega)))]
    | succ n ih =>
      intro i hi
      have e := congrArg (fun z => z.testBit i) h
      simp only [Nat.testBit_xor, Nat.testBit_shiftRight] at e
      have i2 := ih (k + i) (by omega)
      rw [i2] at e
      revert e
      cases x.testBit i <;> cases y.testBit i <;> cases y.testBit (k + i) <;> simp
  exact Nat.eq_of_testBit_eq fun i => key 64 i (by omega)
theorem xs_lt {k x : Nat} (hx : x < 2 ^ 64) : x ^^^ (x >>> k) < 2 ^ 64 :=
  Nat.xor_lt_two_pow hx (Nat.lt_of_le_of_lt (by rw [Nat.shiftRight_eq_div_pow]; exact Nat.div_le_self _ _) hx)
theorem mul_inj {c d : Nat} (hcd : c * d % 2 ^ 64 = 1) {x y : Nat} (hx : x < 2 ^ 64) (hy : y < 2 ^ 64) (h : x * c % 2 ^ 64 = y * c % 2 ^ 64) : x = y := by
  have k : ∀ z : Nat, z < 2 ^ 64 → z * c % 2 ^ 64 * d % 2 ^ 64 = z := by
    intro z hz
    rw [Nat.mod_mul_mod, Nat.mul_assoc, Nat.mul_mod, hcd, Nat.mul_one, Nat.mod_mod, Nat.mod_eq_of_lt hz]
  rw [← k x hx, ← k y hy, h]
/-- a number mixed -/
def mixN (x : Nat) : Nat :=
  let a := (x ^^^ (x >>> 31)) * 11400714819323198485 % 2 ^ 64
  let b := (a ^^^ (a >>> 27)) * 15074714826142052245 % 2 ^ 64
  b ^^^ (b >>> 33)
theorem inv1 : 11400714819323198485 * 17428512612931826493 % 2 ^ 64 = 1 := by decide
theorem inv2 : 15074714826142052245 * 6281218453581128637 % 2 ^ 64 = 1 := by decide
theorem mix_lt {x : Nat} : mixN x < 2 ^ 64 := xs_lt (Nat.mod_lt _ (by decide))
theorem mix_inj {x y : Nat} (hx : x < 2 ^ 64) (hy : y < 2 ^ 64) (h : mixN x = mixN y) : x = y := by
  unfold mixN at h
  have h1 := xs_inj (by decide) (Nat.mod_lt _ (by decide)) (Nat.mod_lt _ (by decide)) h
  have h2 := mul_inj inv2 (xs_lt (Nat.mod_lt _ (by decide))) (xs_lt (Nat.mod_lt _ (by decide))) h1
  have h3 := xs_inj (by decide) (Nat.mod_lt _ (by decide)) (Nat.mod_lt _ (by decide)) h2
  have h4 := mul_inj inv1 (xs_lt hx) (xs_lt hy) h3
  exact xs_inj (by decide) hx hy h4
/-- the number of the first eight bytes -/
def blk (l : List UInt8) : Nat := (List.range 8).foldl (fun n i => n * 256 + (l.getD i 0).toNat) 0
theorem blk_eq (l : List UInt8) : blk l = ((((((((l.getD 0 0).toNat * 256 + (l.getD 1 0).toNat) * 256 + (l.getD 2 0).toNat) * 256 + (l.getD 3 0).toNat) * 256 + (l.getD 4 0).toNat) * 256 + (l.getD 5 0).toNat) * 256 + (l.getD 6 0).toNat) * 256 + (l.getD 7 0).toNat) := by
  simp [blk, List.range, List.range.loop]
theorem blk_lt (l : List UInt8) : blk l < 2 ^ 64 := by
  rw [blk_eq]
  have b := fun i => (l.getD i 0).toNat_lt
  have b0 := b 0
  have b1 := b 1
  have b2 := b 2
  have b3 := b 3
  have b4 := b 4
  have b5 := b 5
  have b6 := b 6
  have b7 := b 7
  clear b
  generalize (l.getD 0 0).toNat = c0 at *
  generalize (l.getD 1 0).toNat = c1 at *
  generalize (l.getD 2 0).toNat = c2 at *
  generalize (l.getD 3 0).toNat = c3 at *
  generalize (l.getD 4 0).toNat = c4 at *
  generalize (l.getD 5 0).toNat = c5 at *
  generalize (l.getD 6 0).toNat = c6 at *
  generalize (l.getD 7 0).toNat = c7 at *
  omega
theorem blk_inj {l r : List UInt8} (h : blk l = blk r) : ∀ i, i < 8 → l.getD i 0 = r.getD i 0 := by
  rw [blk_eq, blk_eq] at h
  have b := fun i => (l.getD i 0).toNat_lt
  have b' := fun i => (r.getD i 0).toNat_lt
  have b0 := b 0
  have b1 := b 1
  have b2 := b 2
  have b3 := b 3
  have b4 := b 4
  have b5 := b 5
  have b6 := b 6
  have b7 := b 7
  have d0 := b' 0
  have d1 := b' 1
  have d2 := b' 2
  have d3 := b' 3
  have d4 := b' 4
  have d5 := b' 5
  have d6 := b' 6
  have d7 := b' 7
  clear b b'
  intro i hi
  match i, hi with
  | 0, _ => exact UInt8.toNat_inj.1 (by omega)
  | 1, _ => exact UInt8.toNat_inj.1 (by omega)
  | 2, _ => exact UInt8.toNat_inj.1 (by omega)
  | 3, _ => exact UInt8.toNat_inj.1 (by omega)
  | 4, _ => exact UInt8.toNat_inj.1 (by omega)
  | 5, _ => exact UInt8.toNat_inj.1 (by omega)
  | 6, _ => exact UInt8.toNat_inj.1 (by omega)
  | 7, _ => exact UInt8.toNat_inj.1 (by omega)
/-- all blocks of a text taken into a state -/
def takeAll (s : Nat) (l : List UInt8) : Nat :=
  if _h : l.length < 8 then mixN (s ^^^ blk l) else takeAll (mixN (s ^^^ blk l)) (l.drop 8)
  termination_by l.length
  decreasing_by rw [List.length_drop]; omega
theorem take_short {s : Nat} {l : List UInt8} (h : l.length < 8) : takeAll s l = mixN (s ^^^ blk l) := by unfold takeAll; rw [dif_pos h]
theorem take_long {s : Nat} {l : List UInt8} (h : 8 ≤ l.length) : takeAll s l = takeAll (mixN (s ^^^ blk l)) (l.drop 8) := by rw [takeAll, dif_neg (by omega)]
theorem xor_inj {a b c : Nat} (h : a ^^^ c = b ^^^ c) : a = b := by
  have := congrArg (fun z => z ^^^ c) h
  simpa [Nat.xor_assoc] using this
theorem xor_inj' {a b c : Nat} (h : c ^^^ a = c ^^^ b) : a = b := by
  rw [Nat.xor_comm c a, Nat.xor_comm c b] at h; exact xor_inj h
theorem take_lt (n : Nat) : ∀ (s : Nat) (l : List UInt8), l.length ≤ n → takeAll s l < 2 ^ 64 := by
  induction n with
  | zero => intro s l h; rw [take_short (by omega)]; exact mix_lt
  | succ n ih =>
    intro s l h
    by_cases hl : l.length < 8
    · rw [take_short hl]; exact mix_lt
    · rw [take_long (by omega)]; exact ih _ _ (by rw [List.length_drop]; omega)
/-- a state is told by what it becomes -/
theorem take_inj (n : Nat) : ∀ (l : List UInt8) (s t : Nat), l.length ≤ n → s < 2 ^ 64 → t < 2 ^ 64 → takeAll s l = takeAll t l → s = t := by
  induction n with
  | zero =>
    intro l s t h hs ht e
    rw [take_short (by omega), take_short (by omega)] at e
    exact xor_inj (mix_inj (Nat.xor_lt_two_pow hs (blk_lt l)) (Nat.xor_lt_two_pow ht (blk_lt l)) e)
  | succ n ih =>
    intro l s t h hs ht e
    by_cases hl : l.length < 8
    · rw [take_short hl, take_short hl] at e
      exact xor_inj (mix_inj (Nat.xor_lt_two_pow hs (blk_lt l)) (Nat.xor_lt_two_pow ht (blk_lt l)) e)
    · rw [take_long (s := s) (l := l) (by omega), take_long (s := t) (l := l) (by omega)] at e
      have := ih (l.drop 8) _ _ (by rw [List.length_drop]; omega) mix_lt mix_lt e
      exact xor_inj (mix_inj (Nat.xor_lt_two_pow hs (blk_lt l)) (Nat.xor_lt_two_pow ht (blk_lt l)) this)
/-- the number of a text -/
def sumN (l : List UInt8) : Nat := takeAll (7640891576956012809 ^^^ l.length) l
/-- texts that differ in one block have different numbers -/
theorem take_one (n : Nat) : ∀ (a b b' c : List UInt8) (s : Nat), a.length = 8 * n → b.length = 8 → b'.length = 8 → s < 2 ^ 64 → takeAll s (a ++ (b ++ c)) = takeAll s (a ++ (b' ++ c)) → b = b' := by
  induction n with
  | zero =>
    intro a b b' c s ha hb hb' hs e
    obtain rfl : a = [] := List.eq_nil_of_length_eq_zero (by omega)
    rw [List.nil_append, List.nil_append, take_long (s := s) (l := b ++ c) (by rw [List.length_append]; omega), take_long (s := s) (l := b' ++ c) (by rw [List.length_append]; omega)] at e
    rw [List.drop_left' hb, List.drop_left' hb'] at e
    have e1 := take_inj _ _ _ _ (Nat.le_refl _) mix_lt mix_lt e
    have e2 := xor_inj' (mix_inj (Nat.xor_lt_two_pow hs (blk_lt _)) (Nat.xor_lt_two_pow hs (blk_lt _)) e1)
    have e3 := blk_inj e2
    apply List.ext_getElem (by omega)
    intro i h1 h2
    have := e3 i (by omega)
    rw [List.getD_eq_getElem?_getD, List.getD_eq_getElem?_getD, List.getElem?_append_left h1, List.getElem?_append_left h2, List.getElem?_eq_getElem h1, List.getElem?_eq_getElem h2] at this
    simpa using this
  | succ n ih =>
    intro a b b' c s ha hb hb' hs e
    rw [take_long (s := s) (l := a ++ (b ++ c)) (by simp; omega), take_long (s := s) (l := a ++ (b' ++ c)) (by simp; omega), List.drop_append_of_le_length (by omega), List.drop_append_of_le_length (by omega)] at e
    have hbk : blk (a ++ (b ++ c)) = blk (a ++ (b' ++ c)) := by
      have g : ∀ (r : List UInt8) i, i < 8 → (a ++ r).getD i 0 = a.getD i 0 := fun r i hi => by
        rw [List.getD_eq_getElem?_getD, List.getD_eq_getElem?_getD, List.getElem?_append_left (by omega)]
      rw [blk_eq, blk_eq]
      simp only [g _ 0 (by omega), g _ 1 (by omega), g _ 2 (by omega), g _ 3 (by omega), g _ 4 (by omega), g _ 5 (by omega), g _ 6 (by omega), g _ 7 (by omega)]
    rw [hbk] at e
    exact ih (a.drop 8) b b' c _ (by rw [List.length_drop]; omega) hb hb' mix_lt e
theorem sum_one {n : Nat} {a b b' c : List UInt8} (ha : a.length = 8 * n) (hb : b.length = 8) (hb' : b'.length = 8) (hc : (a ++ (b ++ c)).length < 2 ^ 63) (e : sumN (a ++ (b ++ c)) = sumN (a ++ (b' ++ c))) : b = b' := by
  unfold sumN at e
  have hl : (a ++ (b' ++ c)).length = (a ++ (b ++ c)).length := by simp; omega
  rw [hl] at e
  exact take_one n a b b' c _ ha hb hb' (Nat.xor_lt_two_pow (by decide) (by omega)) e

/-- a hexadecimal digit -/
def hd (k : Nat) : UInt8 := UInt8.ofNat (if k < 10 then 48 + k else 87 + k)
theorem hd_inj {a b : Nat} (ha : a < 16) (hb : b < 16) (h : hd a = hd b) : a = b := by
  have key : ∀ a, a < 16 → ∀ b, b < 16 → hd a = hd b → a = b := by decide
  exact key a ha b hb h
theorem hd_ne {a : Nat} (ha : a < 16) : hd a ≠ 0 := by
  have key : ∀ a, a < 16 → hd a ≠ 0 := by decide
  exact key a ha
/-- the last n hexadecimal digits of a number, ahead of a text -/
def hexs : Nat → Nat → List UInt8 → List UInt8
  | 0, _, s => s
  | n + 1, x, s => hexs n (x / 16) (hd (x % 16) :: s)
theorem hexs_len : ∀ (n x : Nat) (s : List UInt8), (hexs n x s).length = n + s.length
  | 0, _, s => by simp [hexs]
  | n + 1, x, s => by rw [hexs, hexs_len n]; simp; omega
theorem hexs_app : ∀ (n x : Nat) (s : List UInt8), hexs n x s = hexs n x [] ++ s
  | 0, _, s => by simp [hexs]
  | n + 1, x, s => by rw [hexs, hexs_app n, hexs, hexs_app n (x / 16) [_]]; simp
theorem hexs_inj : ∀ (n x y : Nat), x < 16 ^ n → y < 16 ^ n → hexs n x [] = hexs n y [] → x = y
  | 0, x, y, hx, hy, _ => by simp at hx hy; omega
  | n + 1, x, y, hx, hy, h => by
    rw [hexs, hexs, hexs_app n (x / 16), hexs_app n (y / 16)] at h
    have hl : (hexs n (x / 16) []).length = (hexs n (y / 16) []).length := by rw [hexs_len, hexs_len]
    obtain ⟨h1, h2⟩ := List.append_inj h hl
    have e1 := hexs_inj n (x / 16) (y / 16) (by rw [Nat.pow_succ] at hx; omega) (by rw [Nat.pow_succ] at hy; omega) h1
    have e2 := hd_inj (Nat.mod_lt _ (by decide)) (Nat.mod_lt _ (by decide)) (List.cons.inj h2).1
    omega
theorem hexs_ne0 : ∀ (n x : Nat) (s : List UInt8), (∀ c ∈ s, c ≠ 0) → ∀ c ∈ hexs n x s, c ≠ 0
  | 0, _, s, h => h
  | n + 1, x, s, h => by
    rw [hexs]
    exact hexs_ne0 n _ _ (fun c hc => by
      rcases List.mem_cons.1 hc with rfl | hc
      · exact hd_ne (Nat.mod_lt _ (by decide))
      · exact h c hc)
/-- the digest of a text -/
def dig (l : List UInt8) : List UInt8 := hexs 16 (sumN l) []
theorem dig_len (l : List UInt8) : (dig l).length = 16 := by unfold dig; rw [hexs_len]; rfl
theorem dig_inj {l r : List UInt8} (h : dig l = dig r) : sumN l = sumN r :=
  hexs_inj 16 _ _ (by unfold sumN; exact Nat.lt_of_lt_of_le (take_lt _ _ _ (Nat.le_refl _)) (by decide)) (by unfold sumN; exact Nat.lt_of_lt_of_le (take_lt _ _ _ (Nat.le_refl _)) (by decide)) h
/-- a sealed sector: the digest of place and content, and the content -/
def sealT (place content : List UInt8) : List UInt8 := dig (place ++ content) ++ content
theorem seal_len (p c : List UInt8) : (sealT p c).length = 16 + c.length := by unfold sealT; rw [List.length_append, dig_len]
theorem seal_inj {p c d : List UInt8} (h : sealT p c = sealT p d) : c = d := by
  unfold sealT at h
  exact (List.append_inj h (by rw [dig_len, dig_len])).2
/-- whether a sector is sealed for its place -/
def sealed (p s : List UInt8) : Prop := ∃ c, s = sealT p c
/-- one block of a sealed sector's content turned: it is sealed no more -/
theorem seal_block {p a b b' c : List UInt8} {n : Nat} (hp : (p ++ a).length = 8 * n) (hb : b.length = 8) (hb' : b'.length = 8) (hne : b ≠ b') (hl : (p ++ (a ++ (b ++ c))).length < 2 ^ 63) : ¬ sealed p (dig (p ++ (a ++ (b ++ c))) ++ (a ++ (b' ++ c))) := by
  rintro ⟨d, hd⟩
  unfold sealT at hd
  obtain ⟨h1, rfl⟩ := List.append_inj hd (by rw [dig_len, dig_len])
  have e := dig_inj h1
  rw [← List.append_assoc p a, ← List.append_assoc p a] at e
  exact hne (sum_one hp hb hb' (by rw [List.append_assoc]; exact hl) e)
/-- a sealed sector of which the digest has turned is sealed no more -/
theorem seal_digest {p c x : List UInt8} (hx : x.length = 16) (hne : x ≠ dig (p ++ c)) : ¬ sealed p (x ++ c) := by
  rintro ⟨d, hd⟩
  unfold sealT at hd
  obtain ⟨h1, rfl⟩ := List.append_inj hd (by rw [dig_len, hx])
  exact hne h1
/-- a text torn over another one -/
def torn (k : Nat) (new old : List UInt8) : List UInt8 := new.take k ++ old.drop k
theorem torn_zero (new old : List UInt8) : torn 0 new old = old := by simp [torn]
theorem torn_all {new old : List UInt8} {k : Nat} (h : old.length ≤ k) (h' : new.length ≤ k) : torn k new old = new := by
  unfold torn; rw [List.take_of_length_le h', List.drop_of_length_le h, List.append_nil]
/-- a head torn over a head of the same place, with contents that differ in their first block alone: it is one of them, or not sealed -/
theorem torn_head {p b b' c : List UInt8} (k : Nat) (hp : p.length = 8) (hb : b.length = 8) (hb' : b'.length = 8) (hc : c.length < 1000) :
    torn k (sealT p (b' ++ c)) (sealT p (b ++ c)) = sealT p (b ++ c) ∨ torn k (sealT p (b' ++ c)) (sealT p (b ++ c)) = sealT p (b' ++ c) ∨ ¬ sealed p (torn k (sealT p (b' ++ c)) (sealT p (b ++ c))) := by
  by_cases hk : k ≤ 16
  · -- the digest is torn
    have e : torn k (sealT p (b' ++ c)) (sealT p (b ++ c)) = torn k (dig (p ++ (b' ++ c))) (dig (p ++ (b ++ c))) ++ (b ++ c) := by
      unfold torn sealT
      rw [List.take_append_of_le_length (by rw [dig_len]; exact hk), List.drop_append_of_le_length (by rw [dig_len]; exact hk), List.append_assoc]
    rw [e]
    by_cases h : torn k (dig (p ++ (b' ++ c))) (dig (p ++ (b ++ c))) = dig (p ++ (b ++ c))
    · left; rw [h]; rfl
    · right; right
      exact seal_digest (by unfold torn; simp [dig_len]; omega) h
  · -- the count's block is torn
    have e : torn k (sealT p (b' ++ c)) (sealT p (b ++ c)) = dig (p ++ (b' ++ c)) ++ (torn (k - 16) b' b ++ c) := by
      unfold torn sealT
      rw [List.take_append, List.drop_append, List.take_of_length_le (by rw [dig_len]; omega), List.drop_of_length_le (by rw [dig_len]; omega), dig_len, dig_len, List.nil_append, List.take_append, List.drop_append, hb, hb', List.append_assoc]
      by_cases h8 : k - 16 ≤ 8
      · rw [show k - 16 - 8 = 0 by omega]
        simp
      · rw [List.take_of_length_le (l := b') (by omega), List.drop_of_length_le (l := b) (by omega)]
        simp
    rw [e]
    have hl : (torn (k - 16) b' b).length = 8 := by unfold torn; simp; omega
    by_cases h : torn (k - 16) b' b = b'
    · right; left; rw [h]; rfl
    · right; right
      have := seal_block (p := p) (a := []) (b := b') (b' := torn (k - 16) b' b) (c := c) (n := 1) (by simp; omega) hb' hl (Ne.symm h) (by simp; omega)
      simpa using this
end Go.Proofs.YtihoomlaggihlaaDoor

namespace Go.Proofs.YtihoomlaggihlaaDoor
open Go.Lib (decDigits)

/-- a decimal digit -/
def dd (k : Nat) : UInt8 := UInt8.ofNat (48 + k)
theorem dd_inj {a b : Nat} (ha : a < 10) (hb : b < 10) (h : dd a = dd b) : a = b := by
  have key : ∀ a, a < 10 → ∀ b, b < 10 → dd a = dd b → a = b := by decide
  exact key a ha b hb h
/-- the last n decimal digits of a number, ahead of a text -/
def decs : Nat → Nat → List UInt8 → List UInt8
  | 0, _, s => s
  | n + 1, x, s => decs n (x / 10) (dd (x % 10) :: s)
theorem decs_len : ∀ (n x : Nat) (s : List UInt8), (decs n x s).length = n + s.length
  | 0, _, s => by simp [decs]
  | n + 1, x, s => by rw [decs, decs_len n]; simp; omega
theorem decs_app : ∀ (n x : Nat) (s : List UInt8), decs n x s = decs n x [] ++ s
  | 0, _, s => by simp [decs]
  | n + 1, x, s => by rw [decs, decs_app n, decs, decs_app n (x / 10) [_]]; simp
theorem decs_snoc (n x : Nat) : decs (n + 1) x [] = decs n (x / 10) [] ++ [dd (x % 10)] := by rw [decs, decs_app]
theorem decs_inj : ∀ (n x y : Nat), x < 10 ^ n → y < 10 ^ n → decs n x [] = decs n y [] → x = y
  | 0, x, y, hx, hy, _ => by simp at hx hy; omega
  | n + 1, x, y, hx, hy, h => by
    rw [decs_snoc, decs_snoc] at h
    have hl : (decs n (x / 10) []).length = (decs n (y / 10) []).length := by rw [decs_len, decs_len]
    obtain ⟨h1, h2⟩ := List.append_inj h hl
    have e1 := decs_inj n (x / 10) (y / 10) (by rw [Nat.pow_succ] at hx; omega) (by rw [Nat.pow_succ] at hy; omega) h1
    have e2 := dd_inj (Nat.mod_lt _ (by decide)) (Nat.mod_lt _ (by decide)) (List.cons.inj h2).1
    omega
theorem decs_zero : ∀ n, decs n 0 [] = List.replicate n 48
  | 0 => rfl
  | n + 1 => by rw [decs_snoc, Nat.zero_div, decs_zero n, List.replicate_succ']; rfl
theorem decs_digit : ∀ (n x : Nat) (c : UInt8), c ∈ decs n x [] → 48 ≤ c.toNat ∧ c.toNat ≤ 57
  | 0, x, c, h => by simp [decs] at h
  | n + 1, x, c, h => by
    rw [decs_snoc] at h
    rcases List.mem_append.1 h with h | h
    · exact decs_digit n _ c h
    · rw [List.mem_singleton.1 h]
      have key : ∀ k, k < 10 → 48 ≤ (dd k).toNat ∧ (dd k).toNat ≤ 57 := by decide
      exact key _ (Nat.mod_lt _ (by decide))
theorem dec_small {n : Nat} (h : n < 10) : decDigits n = [dd n] := by rw [decDigits, dif_pos h]; rfl
theorem dec_big {n : Nat} (h : ¬ n < 10) : decDigits n = decDigits (n / 10) ++ [dd (n % 10)] := by rw [decDigits, dif_neg h]; rfl
/-- zeros ahead of a number -/
theorem pad_dec : ∀ (w n : Nat), n < 10 ^ (w + 1) → (decDigits n).length ≤ w + 1 ∧ List.replicate (w + 1 - (decDigits n).length) 48 ++ decDigits n = decs (w + 1) n []
  | 0, n, h => by
    have h : n < 10 := by simpa using h
    rw [dec_small h, decs_snoc, Nat.mod_eq_of_lt h]
    simp [decs]
  | w + 1, n, h => by
    by_cases hs : n < 10
    · rw [dec_small hs, decs_snoc, Nat.mod_eq_of_lt hs, Nat.div_eq_of_lt hs, decs_zero]
      simp
    · have i := pad_dec w (n / 10) (by rw [Nat.pow_succ] at h; omega)
      rw [dec_big hs, decs_snoc, ← i.2, List.length_append, List.length_singleton]
      refine ⟨by omega, ?_⟩
      rw [show w + 1 + 1 - ((decDigits (n / 10)).length + 1) = w + 1 - (decDigits (n / 10)).length by omega, List.append_assoc]
end Go.Proofs.YtihoomlaggihlaaDoor

namespace Go.Proofs.YtihoomlaggihlaaDoor

/-- sectors: a text at the head of one -/
def put1 (ss : List (List UInt8)) (i : Nat) (t : List UInt8) : List (List UInt8) := ss.set i (t ++ (ss.getD i []).drop t.length)
def settleS (ss : List (List UInt8)) (l : List (Nat × List UInt8)) : List (List UInt8) := l.foldl (fun s p => put1 s p.1 p.2) ss
/-- what is stable after a failure of power: the first k writes, of the next one j bytes -/
def failS (ss : List (List UInt8)) (l : List (Nat × List UInt8)) (k j : Nat) : List (List UInt8) :=
  match l[k]? with
  | some p => put1 (settleS ss (l.take k)) p.1 (p.2.take j)
  | none => settleS ss l
/-- a disk: its stable sectors, its pending writes, whether it is off, and when its power fails -/
structure PD where
  ss : List (List UInt8)
  pend : List (Nat × List UInt8)
  off : Bool
  alarm : Option (Int × Int × Int)
def PD.fail (D : PD) (x y : Int) : PD := if D.off = true then D else ⟨failS D.ss D.pend (max x 0).toNat (min (max y 0) 64).toNat, [], true, none⟩
def PD.count (D : PD) : PD × Int :=
  match D.alarm with
  | none => (D, 0)
  | some (a, x, y) => if 0 < a then ({ D with alarm := some (a - 1, x, y) }, 0) else (D.fail x y, 21)
def PD.write (D : PD) (i : Nat) (t : List UInt8) : PD × Int := if D.off = true then (D, 21) else PD.count { D with pend := D.pend ++ [(i, t)] }
def PD.sync (D : PD) : PD × Int :=
  if D.off = true then (D, 21) else
  if D.count.2 = 0 then ({ D.count.1 with ss := settleS D.count.1.ss D.count.1.pend, pend := [] }, 0) else D.count
def PD.start (D : PD) : PD := { D with off := false, alarm := none }
def PD.arm (D : PD) (a x y : Int) : PD := if D.off = true then D else { D with alarm := if 0 ≤ a then some (a, x, y) else none }
/-- a sector as it was written last -/
def PD.rd (D : PD) (i : Nat) : List UInt8 := (settleS D.ss D.pend).getD i []
/-- writes, and a synchronization -/
def PD.writes (D : PD) : List (Nat × List UInt8) → PD × Int
  | [] => D.sync
  | p :: l => if (D.write p.1 p.2).2 = 0 then (D.write p.1 p.2).1.writes l else D.write p.1 p.2
def PD.runs (D : PD) : List (List (Nat × List UInt8)) → PD × Int
  | [] => (D, 0)
  | s :: l => if (D.writes s).2 = 0 then (D.writes s).1.runs l else D.writes s
/-- writes of whole sectors -/
def Whole (n : Nat) (l : List (Nat × List UInt8)) : Prop := ∀ p ∈ l, p.1 < n ∧ p.2.length = 64
/-- sectors of 64 bytes -/
def Sec (n : Nat) (ss : List (List UInt8)) : Prop := ss.length = n ∧ ∀ s ∈ ss, s.length = 64
/-- a disk as it should be -/
structure Vd (n : Nat) (D : PD) : Prop where
  sec : Sec n D.ss
  whole : Whole n D.pend
  al : ∀ a x y, D.alarm = some (a, x, y) → 0 ≤ a ∧ a ≤ 9223372036854775807

theorem Sec.at {n : Nat} {ss : List (List UInt8)} (h : Sec n ss) {i : Nat} (hi : i < n) : (ss.getD i []).length = 64 := by
  have hl : i < ss.length := by rw [h.1]; exact hi
  rw [List.getD_eq_getElem?_getD, List.getElem?_eq_getElem hl]
  exact h.2 _ (List.getElem_mem hl)
theorem Sec.put {n : Nat} {ss : List (List UInt8)} (h : Sec n ss) {i : Nat} {t : List UInt8} (hi : i < n) (ht : t.length ≤ 64) : Sec n (put1 ss i t) := by
  refine ⟨by simp [put1, h.1], fun s hs => ?_⟩
  rcases List.mem_or_eq_of_mem_set hs with e | e
  · exact h.2 s e
  · rw [e, List.length_append, List.length_drop, h.at hi]; omega
theorem put_at {ss : List (List UInt8)} {i j : Nat} {t : List UInt8} (hi : i < ss.length) : (put1 ss i t).getD j [] = if j = i then t ++ (ss.getD i []).drop t.length else ss.getD j [] := by
  unfold put1
  rw [List.getD_eq_getElem?_getD, List.getElem?_set]
  by_cases h : j = i
  · subst h; simp [hi]
  · rw [if_neg h, if_neg (Ne.symm h), List.getD_eq_getElem?_getD]
theorem settle_nil (ss : List (List UInt8)) : settleS ss [] = ss := rfl
theorem settle_cons (ss : List (List UInt8)) (p : Nat × List UInt8) (l : List (Nat × List UInt8)) : settleS ss (p :: l) = settleS (put1 ss p.1 p.2) l := rfl
theorem settle_app (ss : List (List UInt8)) (l r : List (Nat × List UInt8)) : settleS ss (l ++ r) = settleS (settleS ss l) r := by simp [settleS]
theorem Sec.settle {n : Nat} : ∀ {l : List (Nat × List UInt8)} {ss : List (List UInt8)}, Sec n ss → (∀ p ∈ l, p.1 < n ∧ p.2.length ≤ 64) → Sec n (settleS ss l)
  | [], _, h, _ => h
  | p :: l, _, h, hl => Sec.settle (l := l) (h.put (hl p (by simp)).1 (hl p (by simp)).2) (fun q hq => hl q (by simp [hq]))
theorem Whole.le {n : Nat} {l : List (Nat × List UInt8)} (h : Whole n l) : ∀ p ∈ l, p.1 < n ∧ p.2.length ≤ 64 := fun p hp => ⟨(h p hp).1, by rw [(h p hp).2]; exact Nat.le_refl _⟩
theorem Whole.app {n : Nat} {l r : List (Nat × List UInt8)} (h : Whole n l) (g : Whole n r) : Whole n (l ++ r) := fun p hp => by
  rcases List.mem_append.1 hp with e | e
  · exact h p e
  · exact g p e
theorem Whole.take {n : Nat} {l : List (Nat × List UInt8)} (h : Whole n l) (k : Nat) : Whole n (l.take k) := fun p hp => h p (List.mem_of_mem_take hp)
theorem Sec.fail {n : Nat} {ss : List (List UInt8)} {l : List (Nat × List UInt8)} (h : Sec n ss) (hl : Whole n l) (k j : Nat) : Sec n (failS ss l k j) := by
  unfold failS
  split
  · rename_i p hp
    have hp := hl p (List.mem_of_getElem? hp)
    exact (h.settle (hl.take k).le).put hp.1 (by rw [List.length_take]; omega)
  · exact h.settle hl.le
theorem fail_all {ss : List (List UInt8)} {l : List (Nat × List UInt8)} {k : Nat} (h : l.length ≤ k) (j : Nat) : failS ss l k j = settleS ss l := by
  unfold failS; rw [List.getElem?_eq_none h]
theorem fail_at {ss : List (List UInt8)} {l : List (Nat × List UInt8)} {k : Nat} (h : k < l.length) (j : Nat) : failS ss l k j = put1 (settleS ss (l.take k)) l[k].1 (l[k].2.take j) := by
  unfold failS; rw [List.getElem?_eq_getElem h]
theorem put_nil (ss : List (List UInt8)) (i : Nat) : put1 ss i [] = ss := by
  unfold put1
  rw [List.nil_append, List.length_nil, List.drop_zero]
  by_cases h : i < ss.length
  · rw [List.getD_eq_getElem?_getD, List.getElem?_eq_getElem h]; simp
  · rw [List.set_eq_of_length_le (by omega)]
/-- a sector in no write's place stays -/
theorem settle_far : ∀ {l : List (Nat × List UInt8)} {ss : List (List UInt8)} {i : Nat}, (∀ p ∈ l, p.1 ≠ i) → (settleS ss l).getD i [] = ss.getD i []
  | [], _, _, _ => rfl
  | p :: l, ss, i, h => by
    rw [settle_cons, settle_far (fun q hq => h q (by simp [hq]))]
    by_cases hp : p.1 < ss.length
    · rw [put_at hp, if_neg (Ne.symm (h p (by simp)))]
    · unfold put1; rw [List.set_eq_of_length_le (by omega)]
theorem fail_far {l : List (Nat × List UInt8)} {ss : List (List UInt8)} {k j i : Nat} (h : ∀ p ∈ l, p.1 ≠ i) : (failS ss l k j).getD i [] = ss.getD i [] := by
  by_cases hk : k < l.length
  · rw [fail_at hk]
    have hp : l[k].1 ≠ i := h _ (List.getElem_mem hk)
    have e := settle_far (l := l.take k) (ss := ss) (i := i) (fun p hp => h p (List.mem_of_mem_take hp))
    by_cases hl : l[k].1 < (settleS ss (l.take k)).length
    · rw [put_at hl, if_neg (Ne.symm hp), e]
    · unfold put1; rw [List.set_eq_of_length_le (by omega), e]
  · rw [fail_all (by omega), settle_far h]
/-- a failure while only the first writes were pending -/
theorem fail_take (ss : List (List UInt8)) (l : List (Nat × List UInt8)) (m k j : Nat) : ∃ k' j', failS ss (l.take m) k j = failS ss l k' j' := by
  by_cases hk : k < (l.take m).length
  · refine ⟨k, j, ?_⟩
    have h1 : k < m ∧ k < l.length := by simp at hk; omega
    rw [fail_at hk, fail_at h1.2, List.take_take, Nat.min_eq_left (by omega), List.getElem_take]
  · rw [fail_all (by omega)]
    by_cases hm : m < l.length
    · exact ⟨m, 0, by rw [fail_at hm, List.take_zero, put_nil]⟩
    · exact ⟨l.length, 0, by rw [fail_all (Nat.le_refl _), List.take_of_length_le (by omega)]⟩

/-- stable sectors when the power fails in the midst of writes, each row of which ends with a synchronization -/
inductive Crash : List (List UInt8) → List (List (Nat × List UInt8)) → List (List UInt8) → Prop
  | here {ss s rest} (k j : Nat) : Crash ss (s :: rest) (failS ss s k j)
  | later {ss s rest t} : Crash (settleS ss s) rest t → Crash ss (s :: rest) t
/-- how writes and a synchronization end -/
theorem writes_end (n : Nat) (ss : List (List UInt8)) : ∀ (l p : List (Nat × List UInt8)) (al : Option (Int × Int × Int)), (∀ a x y, al = some (a, x, y) → 0 ≤ a ∧ a ≤ 9223372036854775807) →
    (∃ al', PD.writes ⟨ss, p, false, al⟩ l = (⟨settleS ss (p ++ l), [], false, al'⟩, 0) ∧ (∀ a x y, al' = some (a, x, y) → 0 ≤ a ∧ a ≤ 9223372036854775807) ∧ (al = none → al' = none)) ∨
    (∃ k j, PD.writes ⟨ss, p, false, al⟩ l = (⟨failS ss (p ++ l) k j, [], true, none⟩, 21) ∧ al ≠ none)
  | [], p, al, h => by
    rcases al with _ | ⟨a, x, y⟩
    · exact Or.inl ⟨none, by simp [PD.writes, PD.sync, PD.count], by simp, by simp⟩
    · by_cases ha : 0 < a
      · refine Or.inl ⟨some (a - 1, x, y), by simp [PD.writes, PD.sync, PD.count, ha], ?_, by simp⟩
        intro a' x' y' e
        simp at e
        have := h a x y rfl
        omega
      · exact Or.inr ⟨(max x 0).toNat, (min (max y 0) 64).toNat, by simp [PD.writes, PD.sync, PD.count, ha, PD.fail], by simp⟩
  | q :: l, p, al, h => by
    rcases al with _ | ⟨a, x, y⟩
    · have := writes_end n ss l (p ++ [q]) none (by simp)
      simpa [PD.writes, PD.write, PD.count] using this
    · by_cases ha : 0 < a
      · have := writes_end n ss l (p ++ [q]) (some (a - 1, x, y)) (by intro a' x' y' e; simp at e; have := h a x y rfl; omega)
        simpa [PD.writes, PD.write, PD.count, ha] using this
      · right
        obtain ⟨k, j, e⟩ := fail_take ss (p ++ q :: l) (p.length + 1) (max x 0).toNat (min (max y 0) 64).toNat
        refine ⟨k, j, ?_, by simp⟩
        rw [← e]
        have e2 : (p ++ q :: l).take (p.length + 1) = p ++ [q] := by
          rw [List.take_append, List.take_of_length_le (by omega)]; simp
        rw [e2]
        simp [PD.writes, PD.write, PD.count, ha, PD.fail]
theorem runs_end (n : Nat) : ∀ (segs : List (List (Nat × List UInt8))) (ss : List (List UInt8)) (al : Option (Int × Int × Int)), (∀ a x y, al = some (a, x, y) → 0 ≤ a ∧ a ≤ 9223372036854775807) →
    (∃ al', PD.runs ⟨ss, [], false, al⟩ segs = (⟨settleS ss segs.flatten, [], false, al'⟩, 0) ∧ (∀ a x y, al' = some (a, x, y) → 0 ≤ a ∧ a ≤ 9223372036854775807) ∧ (al = none → al' = none)) ∨
    (∃ t, PD.runs ⟨ss, [], false, al⟩ segs = (⟨t, [], true, none⟩, 21) ∧ Crash ss segs t ∧ al ≠ none)
  | [], ss, al, h => Or.inl ⟨al, rfl, h, id⟩
  | s :: segs, ss, al, h => by
    rcases writes_end n ss s [] al h with ⟨al', e, h', hn⟩ | ⟨k, j, e, hne⟩
    · rcases runs_end n segs (settleS ss s) al' h' with ⟨al2, e2, h2, hn2⟩ | ⟨t, e2, c, hne⟩
      · exact Or.inl ⟨al2, by rw [PD.runs, e]; simp at e2 ⊢; rw [e2, settle_app], h2, fun g => hn2 (hn g)⟩
      · exact Or.inr ⟨t, by rw [PD.runs, e]; simpa using e2, Crash.later c, fun g => hne (hn g)⟩
    · exact Or.inr ⟨failS ss s k j, by rw [PD.runs, e]; simp, Crash.here k j, hne⟩
theorem runs_app (D : PD) : ∀ (a b : List (List (Nat × List UInt8))), D.runs (a ++ b) = if (D.runs a).2 = 0 then (D.runs a).1.runs b else D.runs a
  | [], b => by simp [PD.runs]
  | s :: a, b => by
    rw [List.cons_append, PD.runs, PD.runs]
    by_cases h : (D.writes s).2 = 0
    · simp only [h, if_true]; exact runs_app _ a b
    · simp [h]
end Go.Proofs.YtihoomlaggihlaaDoor

namespace Go.Proofs.YtihoomlaggihlaaDoor
open Go.Lib (decDigits)

def zeroT : List UInt8 := List.replicate 64 0
/-- a content filled up with zero bytes -/
def fillT (c : List UInt8) : List UInt8 := c ++ List.replicate (48 - c.length) 0
/-- a sealed sector of a place -/
def sealP (p : Nat) (c : List UInt8) : List UInt8 := sealT (decs 8 p []) (fillT c)
def headP (p n : Nat) : List UInt8 := sealP p (decs 8 n [])
def sectP (p : Nat) (t : List UInt8) : List UInt8 := sealP p (decs 2 t.length [] ++ t)
/-- the count of a head; -1 if it is not valid -/
def cnt (p : Nat) (s : List UInt8) (room : Nat) : Int :=
  if s = zeroT then 0 else
  match (List.range (room + 1)).find? (fun n => decide (headP p n = s)) with
  | some n => (n : Int)
  | none => -1

theorem fill_len {c : List UInt8} (h : c.length ≤ 48) : (fillT c).length = 48 := by simp [fillT]; omega
theorem sealP_len (p : Nat) {c : List UInt8} (h : c.length ≤ 48) : (sealP p c).length = 64 := by rw [sealP, seal_len, fill_len h]
theorem head_len (p n : Nat) : (headP p n).length = 64 := sealP_len p (by rw [decs_len]; simp)
theorem sect_len (p : Nat) {t : List UInt8} (h : t.length ≤ 46) : (sectP p t).length = 64 := sealP_len p (by rw [List.length_append, decs_len]; simp; omega)
theorem head_eq (p n : Nat) : headP p n = sealT (decs 8 p []) (decs 8 n [] ++ List.replicate 40 0) := by
  unfold headP sealP fillT
  rw [decs_len]; rfl
theorem head_inj {p m n : Nat} (hm : m < 10 ^ 8) (hn : n < 10 ^ 8) (h : headP p m = headP p n) : m = n := by
  rw [head_eq, head_eq] at h
  have e := List.append_inj (seal_inj h) (by rw [decs_len, decs_len])
  exact decs_inj 8 m n hm hn e.1
theorem sect_inj {p : Nat} {s t : List UInt8} (hs : s.length ≤ 46) (ht : t.length ≤ 46) (h : sectP p s = sectP p t) : s = t := by
  unfold sectP sealP at h
  have e := seal_inj h
  unfold fillT at e
  rw [List.append_assoc, List.append_assoc] at e
  obtain ⟨e1, e2⟩ := List.append_inj e (by rw [decs_len, decs_len])
  have hl := decs_inj 2 _ _ (by omega) (by omega) e1
  exact (List.append_inj e2 hl).1
theorem dig_ne0 (l : List UInt8) : ∀ c ∈ dig l, c ≠ 0 := hexs_ne0 16 _ _ (by simp)
theorem head_nz (p n i : Nat) (hi : i < 24) : (headP p n).getD i 0 ≠ 0 := by
  rw [head_eq, sealT, List.getD_eq_getElem?_getD]
  by_cases h : i < 16
  · rw [List.getElem?_append_left (by rw [dig_len]; exact h), List.getElem?_eq_getElem (by rw [dig_len]; exact h)]
    exact dig_ne0 _ _ (List.getElem_mem _)
  · rw [List.getElem?_append_right (by rw [dig_len]; omega), dig_len, List.getElem?_append_left (by rw [decs_len]; simp; omega), List.getElem?_eq_getElem (by rw [decs_len]; simp; omega)]
    intro e
    have := decs_digit 8 n _ (List.getElem_mem (l := decs 8 n []) (n := i - 16) (by rw [decs_len]; simp; omega))
    simp only [Option.getD_some] at e
    rw [e] at this
    simp at this
theorem head_ne_zero (p n : Nat) : headP p n ≠ zeroT := by
  intro e
  have := head_nz p n 0 (by decide)
  rw [e] at this
  exact this (by decide)
theorem cnt_zero (p room : Nat) : cnt p zeroT room = 0 := by unfold cnt; rw [if_pos rfl]
theorem cnt_head {p n room : Nat} (hr : room < 10 ^ 8) (hn : n ≤ room) : cnt p (headP p n) room = n := by
  unfold cnt
  rw [if_neg (head_ne_zero p n)]
  split
  · rename_i m hm
    have h1 := List.find?_some hm
    have h2 := List.mem_of_find?_eq_some hm
    rw [List.mem_range] at h2
    have := head_inj (p := p) (m := m) (n := n) (by omega) (by omega) (by simpa using h1)
    rw [this]
  · rename_i hm
    have := List.find?_eq_none.1 hm n (List.mem_range.2 (by omega))
    simp at this
theorem cnt_none {p room : Nat} {s : List UInt8} (hz : s ≠ zeroT) (h : ∀ n, n ≤ room → headP p n ≠ s) : cnt p s room = -1 := by
  unfold cnt
  rw [if_neg hz]
  split
  · rename_i m hm
    have h1 := List.find?_some hm
    have h2 := List.mem_of_find?_eq_some hm
    rw [List.mem_range] at h2
    exact absurd (by simpa using h1) (h m (by omega))
  · rfl
theorem cnt_le {p room : Nat} {s : List UInt8} {c : Int} (hr : room < 10 ^ 8) (hc : 0 ≤ c) (h : ∀ n, n ≤ room → headP p n = s → (n : Int) ≤ c) : cnt p s room ≤ c := by
  by_cases hz : s = zeroT
  · rw [hz, cnt_zero]; exact hc
  · by_cases hh : ∃ n, n ≤ room ∧ headP p n = s
    · obtain ⟨n, hn, rfl⟩ := hh
      rw [cnt_head hr hn]; exact h n hn rfl
    · rw [cnt_none hz (fun n hn e => hh ⟨n, hn, e⟩)]; omega
/-- whether a head tells a count -/
def okHead (p : Nat) (s : List UInt8) (c : Nat) : Prop := s = headP p c ∨ (c = 0 ∧ s = zeroT)
instance (p : Nat) (s : List UInt8) (c : Nat) : Decidable (okHead p s c) := by unfold okHead; exact inferInstance
theorem ok_cnt {p c room : Nat} {s : List UInt8} (hr : room < 10 ^ 8) (hc : c ≤ room) (h : okHead p s c) : cnt p s room = c := by
  rcases h with rfl | ⟨rfl, rfl⟩
  · exact cnt_head hr hc
  · exact cnt_zero p room
theorem cnt_ok {p c room : Nat} {s : List UInt8} (hr : room < 10 ^ 8) (h : cnt p s room = c) : okHead p s c ∧ c ≤ room := by
  by_cases hz : s = zeroT
  · rw [hz, cnt_zero] at h
    exact ⟨Or.inr ⟨by omega, hz⟩, by omega⟩
  · by_cases hh : ∃ n, n ≤ room ∧ headP p n = s
    · obtain ⟨n, hn, rfl⟩ := hh
      rw [cnt_head hr hn] at h
      have e : n = c := by omega
      exact ⟨Or.inl (by rw [e]), by omega⟩
    · rw [cnt_none hz (fun n hn e => hh ⟨n, hn, e⟩)] at h; omega

/-- the text of records -/
def textP (l : List (List UInt8)) : List UInt8 := l.flatMap fun r => decDigits r.length ++ 58 :: r
def okR (l : List (List UInt8)) : Prop := ∀ r ∈ l, r.length ≤ 20000
theorem textP_app (a b : List (List UInt8)) : textP (a ++ b) = textP a ++ textP b := by simp [textP]
theorem textP_cons (r : List UInt8) (l : List (List UInt8)) : textP (r :: l) = decDigits r.length ++ 58 :: (r ++ textP l) := by simp [textP]
theorem dec_digit : ∀ (n : Nat) (c : UInt8), c ∈ decDigits n → 48 ≤ c.toNat ∧ c.toNat ≤ 57 := by
  intro n
  induction n using Nat.strongRecOn with
  | _ n ih =>
    intro c hc
    have key : ∀ k, k < 10 → 48 ≤ (dd k).toNat ∧ (dd k).toNat ≤ 57 := by decide
    by_cases h : n < 10
    · rw [dec_small h, List.mem_singleton] at hc; rw [hc]; exact key n h
    · rw [dec_big h] at hc
      rcases List.mem_append.1 hc with e | e
      · exact ih _ (by omega) c e
      · rw [List.mem_singleton.1 e]; exact key _ (Nat.mod_lt _ (by decide))
theorem dec_ne (n : Nat) : decDigits n ≠ [] := by
  by_cases h : n < 10
  · rw [dec_small h]; simp
  · rw [dec_big h]; simp
theorem dec_inj : ∀ (m n : Nat), decDigits m = decDigits n → m = n := by
  intro m
  induction m using Nat.strongRecOn with
  | _ m ih =>
    intro n e
    by_cases hm : m < 10
    · by_cases hn : n < 10
      · rw [dec_small hm, dec_small hn] at e
        exact dd_inj hm hn (by simpa using e)
      · rw [dec_small hm, dec_big hn] at e
        have := congrArg List.length e
        have h2 := List.length_pos_iff.2 (dec_ne (n / 10))
        simp at this
        exact absurd (this) (dec_ne (n / 10))
    · by_cases hn : n < 10
      · rw [dec_big hm, dec_small hn] at e
        have := congrArg List.length e
        simp at this
        exact absurd (this) (dec_ne (m / 10))
      · rw [dec_big hm, dec_big hn] at e
        obtain ⟨e1, e2⟩ := List.append_inj' e rfl
        have h1 := ih (m / 10) (by omega) (n / 10) e1
        have h2 := dd_inj (Nat.mod_lt _ (by decide)) (Nat.mod_lt _ (by decide)) (List.cons.inj e2).1
        omega
theorem colon_inj : ∀ (a b : List UInt8) {r s : List UInt8}, (58 : UInt8) ∉ a → (58 : UInt8) ∉ b → a ++ 58 :: r = b ++ 58 :: s → a = b ∧ r = s
  | [], [], _, _, _, _, e => ⟨rfl, by simpa using e⟩
  | [], c :: b, _, _, _, hb, e => by simp at e; exact absurd e.1 (fun h => hb (by rw [h]; simp))
  | c :: a, [], _, _, ha, _, e => by simp at e; exact absurd e.1 (fun h => ha (by rw [h]; simp))
  | c :: a, d :: b, _, _, ha, hb, e => by
    simp at e
    have := colon_inj a b (fun h => ha (by simp [h])) (fun h => hb (by simp [h])) e.2
    exact ⟨by rw [e.1, this.1], this.2⟩
theorem colon_dec (n : Nat) : (58 : UInt8) ∉ decDigits n := fun h => by have := dec_digit n _ h; simp at this
theorem textP_inj : ∀ (a b : List (List UInt8)), textP a = textP b → a = b
  | [], [], _ => rfl
  | [], r :: b, e => by rw [textP_cons] at e; have := congrArg List.length e; simp [textP] at this
  | r :: a, [], e => by rw [textP_cons] at e; have := congrArg List.length e; simp [textP] at this
  | r :: a, s :: b, e => by
    rw [textP_cons, textP_cons] at e
    obtain ⟨e1, e2⟩ := colon_inj _ _ (colon_dec _) (colon_dec _) e
    have hl := dec_inj _ _ e1
    obtain ⟨e3, e4⟩ := List.append_inj e2 hl
    rw [e3, textP_inj a b e4]
theorem textP_nil {l : List (List UInt8)} (h : textP l = []) : l = [] := textP_inj l [] (by rw [h]; rfl)

/-- what sectors open to: a count and records -/
structure Opn (n : Nat) (S : List (List UInt8)) (c : Nat) (recs : List (List UInt8)) : Prop where
  top : max (cnt 0 (S.getD 0 []) (n - 2)) (cnt 1 (S.getD 1 []) (n - 2)) = (c : Int)
  body : ∃ ts : List (List UInt8), ts.length = c ∧ (∀ i (h : i < ts.length), 1 ≤ ts[i].length ∧ ts[i].length ≤ 46 ∧ S.getD (2 + i) [] = sectP (2 + i) ts[i]) ∧ ts.flatten = textP recs
  ok : okR recs
theorem Opn.same {n c d : Nat} {S : List (List UInt8)} {a b : List (List UInt8)} (h : Opn n S c a) (g : Opn n S d b) : c = d ∧ a = b := by
  have hc : c = d := by have h1 := h.top; have h2 := g.top; omega
  obtain ⟨ts, h1, h2, h3⟩ := h.body
  obtain ⟨us, g1, g2, g3⟩ := g.body
  refine ⟨hc, textP_inj _ _ ?_⟩
  rw [← h3, ← g3]
  congr 1
  apply List.ext_getElem (by omega)
  intro i hi hi'
  have a1 := h2 i hi
  have a2 := g2 i hi'
  exact sect_inj a1.2.1 a2.2.1 (a1.2.2.symm.trans a2.2.2)
theorem Opn.le {n c : Nat} {S a : List (List UInt8)} (h : Opn n S c a) (hn : n - 2 < 10 ^ 8) : c ≤ n - 2 := by
  have := h.top
  rcases Int.le_total (cnt 0 (S.getD 0 []) (n - 2)) (cnt 1 (S.getD 1 []) (n - 2)) with e | e
  · exact (cnt_ok (p := 1) (s := S.getD 1 []) hn (by omega)).2
  · exact (cnt_ok (p := 0) (s := S.getD 0 []) hn (by omega)).2
theorem Opn.far {n c : Nat} {S T a : List (List UInt8)} (h : Opn n S c a) (hT : ∀ i, i < c → T.getD (2 + i) [] = S.getD (2 + i) []) (top : max (cnt 0 (T.getD 0 []) (n - 2)) (cnt 1 (T.getD 1 []) (n - 2)) = (c : Int)) : Opn n T c a := by
  obtain ⟨ts, h1, h2, h3⟩ := h.body
  exact ⟨top, ⟨ts, h1, fun i hi => by rw [hT i (by omega)]; exact h2 i hi, h3⟩, h.ok⟩

/-! torn heads -/
theorem put_torn {t s : List UInt8} (ht : t.length = 64) (hs : s.length = 64) (j : Nat) : t.take j ++ s.drop (t.take j).length = torn j t s := by
  unfold torn
  rw [List.length_take, ht]
  by_cases h : j ≤ 64
  · rw [Nat.min_eq_left h]
  · rw [Nat.min_eq_right (by omega), List.drop_of_length_le (by omega), List.drop_of_length_le (by omega)]
theorem torn_getD {t s : List UInt8} (ht : t.length = 64) (j i : Nat) (hi : i < 64) : (torn j t s).getD i 0 = if i < j then t.getD i 0 else s.getD i 0 := by
  unfold torn
  rw [List.getD_eq_getElem?_getD, List.getD_eq_getElem?_getD, List.getD_eq_getElem?_getD]
  by_cases h : i < j
  · rw [if_pos h, List.getElem?_append_left (by simp; omega), List.getElem?_take_of_lt h]
  · rw [if_neg h, List.getElem?_append_right (by simp; omega), List.getElem?_drop, List.length_take, ht]
    congr 2; omega
theorem zeroT_getD (i : Nat) : zeroT.getD i 0 = 0 := by
  rw [List.getD_eq_getElem?_getD, zeroT, List.getElem?_replicate]; split <;> rfl
theorem zeroT_len : zeroT.length = 64 := by simp [zeroT]
/-- a head torn over zero bytes tells its own count, or none -/
theorem torn_over_zero {p m m' j : Nat} (h : headP p m' = torn j (headP p m) zeroT) : torn j (headP p m) zeroT = headP p m := by
  by_cases h24 : 24 ≤ j
  · rw [head_eq] at *
    unfold torn sealT
    rw [List.take_append, List.take_of_length_le (by rw [dig_len]; omega), dig_len, List.take_append, decs_len, List.take_of_length_le (by rw [decs_len]; simp; omega), List.append_assoc, List.append_assoc]
    congr 2
    rw [zeroT, List.drop_replicate, List.take_replicate, List.replicate_append_replicate]
    congr 1; simp; omega
  · exfalso
    have e := congrArg (fun l => l.getD (if j < 16 then 15 else 23) 0) h
    rw [torn_getD (head_len p m) _ _ (by split <;> omega)] at e
    refine head_nz p m' (if j < 16 then 15 else 23) (by split <;> omega) ?_
    rw [e]
    split
    · rw [if_neg (by omega), zeroT_getD]
    · rw [if_neg (by omega), zeroT_getD]
/-- zero bytes torn over a sector tell no count, but for none of them -/
theorem torn_zeros {p m j : Nat} {s : List UInt8} (h : headP p m = torn j zeroT s) : j = 0 := by
  by_cases hj : j = 0
  · exact hj
  · exfalso
    have e := congrArg (fun l => l.getD 0 0) h
    rw [torn_getD zeroT_len _ _ (by omega), if_pos (by omega), zeroT_getD] at e
    exact head_nz p m 0 (by omega) e
/-- a head torn over one that tells c: if it tells a count, it is the old one or the new one -/
theorem torn_over {p m c d j : Nat} {s : List UInt8} (hs : okHead p s c) (h : headP p m = torn j (headP p d) s) : torn j (headP p d) s = s ∨ torn j (headP p d) s = headP p d := by
  rcases hs with rfl | ⟨_, rfl⟩
  · have := torn_head (p := decs 8 p []) (b := decs 8 c []) (b' := decs 8 d []) (c := List.replicate 40 0) j (by rw [decs_len]; rfl) (by rw [decs_len]; rfl) (by rw [decs_len]; rfl) (by simp)
    rw [← head_eq, ← head_eq] at this
    rcases this with e | e | e
    · exact Or.inl e
    · exact Or.inr e
    · exact absurd ⟨_, by rw [← h, head_eq]⟩ e
  · exact Or.inr (torn_over_zero h)
end Go.Proofs.YtihoomlaggihlaaDoor

namespace Go.Proofs.YtihoomlaggihlaaDoor
open Go.Lib (decDigits)

/-- texts in a row of places -/
def rowAt : Nat → List (List UInt8) → List (Nat × List UInt8)
  | _, [] => []
  | p, t :: l => (p, t) :: rowAt (p + 1) l
/-- sectors of pieces -/
def sects : Nat → List (List UInt8) → List (List UInt8)
  | _, [] => []
  | p, t :: l => sectP p t :: sects (p + 1) l
/-- the pieces of a text -/
def pieces (t : List UInt8) : List (List UInt8) :=
  if _h : t = [] then [] else t.take 46 :: pieces (t.drop 46)
  termination_by t.length
  decreasing_by have := List.length_pos_iff.2 _h; rw [List.length_drop]; omega
theorem pieces_nil : pieces [] = [] := by rw [pieces, dif_pos rfl]
theorem pieces_cons {t : List UInt8} (h : t ≠ []) : pieces t = t.take 46 :: pieces (t.drop 46) := by rw [pieces, dif_neg h]
theorem pieces_flat (n : Nat) : ∀ t : List UInt8, t.length ≤ n → (pieces t).flatten = t := by
  induction n with
  | zero => intro t h; rw [List.eq_nil_of_length_eq_zero (l := t) (by omega), pieces_nil]; rfl
  | succ n ih =>
    intro t h
    by_cases e : t = []
    · rw [e, pieces_nil]; rfl
    · have := List.length_pos_iff.2 e
      rw [pieces_cons e, List.flatten_cons, ih _ (by rw [List.length_drop]; omega), List.take_append_drop]
theorem pieces_len (n : Nat) : ∀ t : List UInt8, t.length ≤ n → ∀ p ∈ pieces t, 1 ≤ p.length ∧ p.length ≤ 46 := by
  induction n with
  | zero => intro t h; rw [List.eq_nil_of_length_eq_zero (l := t) (by omega), pieces_nil]; simp
  | succ n ih =>
    intro t h p hp
    by_cases e : t = []
    · rw [e, pieces_nil] at hp; simp at hp
    · have := List.length_pos_iff.2 e
      rw [pieces_cons e] at hp
      rcases List.mem_cons.1 hp with rfl | hp
      · rw [List.length_take]; omega
      · exact ih _ (by rw [List.length_drop]; omega) p hp
theorem pieces_ne {t : List UInt8} (h : t ≠ []) : 0 < (pieces t).length := by rw [pieces_cons h]; simp
theorem sects_len : ∀ (p : Nat) (l : List (List UInt8)), (sects p l).length = l.length
  | _, [] => rfl
  | p, t :: l => by rw [sects, List.length_cons, sects_len (p + 1) l, List.length_cons]
theorem sects_get : ∀ (p : Nat) (l : List (List UInt8)) (i : Nat) (h : i < l.length), (sects p l).getD i [] = sectP (p + i) l[i]
  | _, [], i, h => absurd h (by simp)
  | p, t :: l, 0, _ => rfl
  | p, t :: l, i + 1, h => by
    rw [sects, List.getD_cons_succ, sects_get (p + 1) l i (by simpa using h)]
    rw [show p + 1 + i = p + (i + 1) by omega]; rfl
theorem sects_64 : ∀ (p : Nat) (l : List (List UInt8)), (∀ t ∈ l, t.length ≤ 46) → ∀ s ∈ sects p l, s.length = 64
  | _, [], _, s, hs => by simp [sects] at hs
  | p, t :: l, h, s, hs => by
    rw [sects] at hs
    rcases List.mem_cons.1 hs with rfl | hs
    · exact sect_len p (h t (by simp))
    · exact sects_64 (p + 1) l (fun u hu => h u (by simp [hu])) s hs
theorem rowAt_mem : ∀ (p : Nat) (l : List (List UInt8)) (q : Nat × List UInt8), q ∈ rowAt p l → p ≤ q.1 ∧ q.1 < p + l.length ∧ q.2 ∈ l
  | _, [], q, h => by simp [rowAt] at h
  | p, t :: l, q, h => by
    rw [rowAt] at h
    rcases List.mem_cons.1 h with rfl | h
    · simp
    · have := rowAt_mem (p + 1) l q h
      refine ⟨by omega, by simp; omega, by simp [this.2.2]⟩
theorem rowAt_whole {n p : Nat} {l : List (List UInt8)} (h : p + l.length ≤ n) (hl : ∀ t ∈ l, t.length = 64) : Whole n (rowAt p l) := fun q hq => by
  have := rowAt_mem p l q hq
  exact ⟨by omega, hl _ this.2.2⟩
theorem rowAt_len : ∀ (p : Nat) (l : List (List UInt8)), (rowAt p l).length = l.length
  | _, [] => rfl
  | p, t :: l => by rw [rowAt, List.length_cons, rowAt_len, List.length_cons]
theorem Sec.row {n : Nat} : ∀ {l : List (List UInt8)} {p : Nat} {S : List (List UInt8)}, Sec n S → p + l.length ≤ n → (∀ t ∈ l, t.length = 64) → ∀ i, i < l.length → (settleS S (rowAt p l)).getD (p + i) [] = l.getD i []
  | [], _, _, _, _, _, i, hi => absurd hi (by simp)
  | t :: l, p, S, h, hn, hl, i, hi => by
    rw [rowAt, settle_cons]
    have ht := hl t (by simp)
    simp only [List.length_cons] at hn
    cases i with
    | zero =>
      rw [settle_far (fun q hq => by have := rowAt_mem _ _ q hq; omega), Nat.add_zero, put_at (by rw [h.1]; omega), if_pos rfl, ht, List.drop_of_length_le (by rw [h.at (by omega)]; omega), List.append_nil]; rfl
    | succ i =>
      have := Sec.row (l := l) (p := p + 1) (h.put (i := p) (t := t) (by omega) (by omega)) (by omega) (fun u hu => hl u (by simp [hu])) i (by simpa using hi)
      rw [show p + 1 + i = p + (i + 1) by omega] at this
      rw [this]; rfl
theorem put_far {ss : List (List UInt8)} {i j : Nat} {t : List UInt8} (h : j ≠ i) : (put1 ss i t).getD j [] = ss.getD j [] := settle_far (l := [(i, t)]) (fun p hp => by simp at hp; rw [hp]; exact Ne.symm h)
/-- one sector written, and the power cut -/
theorem fail_one {n : Nat} {S : List (List UInt8)} (h : Sec n S) {p : Nat} (hp : p < n) {t : List UInt8} (ht : t.length = 64) (k j : Nat) :
    ∃ j', (failS S [(p, t)] k j).getD p [] = torn j' t (S.getD p []) ∧ ∀ i, i ≠ p → (failS S [(p, t)] k j).getD i [] = S.getD i [] := by
  by_cases hk : k = 0
  · subst hk
    refine ⟨j, ?_, fun i hi => ?_⟩
    · rw [fail_at (by simp)]
      simp only [List.take_zero, settle_nil, List.getElem_cons_zero]
      rw [put_at (by rw [h.1]; exact hp), if_pos rfl, put_torn ht (h.at hp)]
    · rw [fail_at (by simp)]
      simp only [List.take_zero, settle_nil, List.getElem_cons_zero]
      rw [put_far hi]
  · refine ⟨64, ?_, fun i hi => ?_⟩
    · rw [fail_all (by simp; omega), settle_cons, settle_nil, put_at (by rw [h.1]; exact hp), if_pos rfl, torn_all (by rw [h.at hp]; exact Nat.le_refl _) (by omega), ht, List.drop_of_length_le (by rw [h.at hp]; exact Nat.le_refl _), List.append_nil]
    · rw [fail_all (by simp; omega), settle_cons, settle_nil, put_far hi]
theorem put_own {n : Nat} {S : List (List UInt8)} (h : Sec n S) {p : Nat} (hp : p < n) {t : List UInt8} (ht : t.length = 64) : (put1 S p t).getD p [] = t := by
  rw [put_at (by rw [h.1]; exact hp), if_pos rfl, List.drop_of_length_le (by rw [h.at hp]; omega), List.append_nil]

/-- how a head is mended: not at all, or zero bytes first -/
def mendAt (S : List (List UInt8)) (p c : Nat) : List (List (Nat × List UInt8)) :=
  if okHead p (S.getD p []) c then [] else [(p, zeroT)] :: (if 0 < c then [[(p, headP p c)]] else [])
def mend (S : List (List UInt8)) (c : Nat) : List (List (Nat × List UInt8)) := mendAt S 0 c ++ mendAt S 1 c
theorem mendAt_crash {n p c : Nat} {S T : List (List UInt8)} (h : Sec n S) (hn : n - 2 < 10 ^ 8) (hc : c ≤ n - 2) (hp : p < n) (hle : cnt p (S.getD p []) (n - 2) ≤ c) (hcr : Crash S (mendAt S p c) T) :
    cnt p (T.getD p []) (n - 2) ≤ c ∧ ∀ i, i ≠ p → T.getD i [] = S.getD i [] := by
  unfold mendAt at hcr
  split at hcr
  · cases hcr
  · cases hcr with
    | here k j =>
      obtain ⟨j', e, f⟩ := fail_one h hp zeroT_len k j
      refine ⟨?_, f⟩
      rw [e]
      refine cnt_le hn (by omega) (fun m hm hh => ?_)
      have := torn_zeros hh
      subst this
      rw [torn_zero] at hh
      rw [← hh, cnt_head hn hm] at hle
      exact hle
    | later hcr =>
      have hS := h.put (i := p) (t := zeroT) hp (by rw [zeroT_len]; omega)
      split at hcr
      · cases hcr with
        | here k j =>
          obtain ⟨j', e, f⟩ := fail_one hS hp (head_len p c) k j
          refine ⟨?_, fun i hi => (f i hi).trans (put_far hi)⟩
          rw [settle_cons, settle_nil, e, put_own h hp zeroT_len]
          refine cnt_le hn (by omega) (fun m hm hh => ?_)
          rw [torn_over_zero hh] at hh
          rw [head_inj (p := p) (by omega) (by omega) hh]
          exact Int.le_refl _
        | later hcr => cases hcr
      · cases hcr
theorem mendAt_done {n p c : Nat} {S : List (List UInt8)} (h : Sec n S) (hp : p < n) :
    okHead p ((settleS S (mendAt S p c).flatten).getD p []) c ∧ ∀ i, i ≠ p → (settleS S (mendAt S p c).flatten).getD i [] = S.getD i [] := by
  unfold mendAt
  split
  · exact ⟨by assumption, fun _ _ => rfl⟩
  · by_cases hc : 0 < c
    · rw [if_pos hc]
      show okHead p ((put1 (put1 S p zeroT) p (headP p c)).getD p []) c ∧ ∀ i, i ≠ p → (put1 (put1 S p zeroT) p (headP p c)).getD i [] = S.getD i []
      refine ⟨?_, fun i hi => (put_far hi).trans (put_far hi)⟩
      rw [put_own (h.put hp (by rw [zeroT_len]; omega)) hp (head_len p c)]
      exact Or.inl rfl
    · rw [if_neg hc]
      show okHead p ((put1 S p zeroT).getD p []) c ∧ ∀ i, i ≠ p → (put1 S p zeroT).getD i [] = S.getD i []
      refine ⟨?_, fun i hi => put_far hi⟩
      rw [put_own h hp zeroT_len]
      exact Or.inr ⟨by omega, rfl⟩
theorem mendAt_ok {S : List (List UInt8)} {p c : Nat} (h : okHead p (S.getD p []) c) : mendAt S p c = [] := by unfold mendAt; rw [if_pos h]
/-- one head at least tells the count -/
theorem Opn.one {n c : Nat} {S a : List (List UInt8)} (h : Opn n S c a) (hn : n - 2 < 10 ^ 8) : (okHead 0 (S.getD 0 []) c ∧ cnt 1 (S.getD 1 []) (n - 2) ≤ c) ∨ (okHead 1 (S.getD 1 []) c ∧ cnt 0 (S.getD 0 []) (n - 2) ≤ c) := by
  have := h.top
  rcases Int.le_total (cnt 0 (S.getD 0 []) (n - 2)) (cnt 1 (S.getD 1 []) (n - 2)) with e | e
  · exact Or.inr ⟨(cnt_ok (p := 1) (s := S.getD 1 []) hn (by omega)).1, by omega⟩
  · exact Or.inl ⟨(cnt_ok (p := 0) (s := S.getD 0 []) hn (by omega)).1, by omega⟩
/-- while heads are mended the power may be cut -/
theorem mend_crash {n c : Nat} {S T a : List (List UInt8)} (h : Opn n S c a) (hS : Sec n S) (hn : 3 ≤ n) (hn8 : n - 2 < 10 ^ 8) (hcr : Crash S (mend S c) T) : Opn n T c a := by
  have hc := h.le hn8
  rcases h.one hn8 with ⟨h0, h1⟩ | ⟨h1, h0⟩
  · rw [mend, mendAt_ok h0, List.nil_append] at hcr
    obtain ⟨e, f⟩ := mendAt_crash hS hn8 hc (by omega) h1 hcr
    refine h.far (fun i hi => f _ (by omega)) ?_
    rw [f 0 (by omega), ok_cnt hn8 hc h0]; omega
  · rw [mend, mendAt_ok h1, List.append_nil] at hcr
    obtain ⟨e, f⟩ := mendAt_crash hS hn8 hc (by omega) h0 hcr
    refine h.far (fun i hi => f _ (by omega)) ?_
    rw [f 1 (by omega), ok_cnt hn8 hc h1]; omega
/-- a journal in order: both heads tell the count -/
structure Good (n : Nat) (S : List (List UInt8)) (c : Nat) (recs : List (List UInt8)) : Prop where
  opn : Opn n S c recs
  one : okHead 0 (S.getD 0 []) c
  two : okHead 1 (S.getD 1 []) c
theorem mend_done {n c : Nat} {S a : List (List UInt8)} (h : Opn n S c a) (hS : Sec n S) (hn : 3 ≤ n) (hn8 : n - 2 < 10 ^ 8) : Good n (settleS S (mend S c).flatten) c a := by
  have hc := h.le hn8
  rcases h.one hn8 with ⟨h0, h1⟩ | ⟨h1, h0⟩
  · rw [mend, mendAt_ok h0, List.nil_append]
    obtain ⟨e, f⟩ := mendAt_done (p := 1) (c := c) hS (by omega)
    have g0 : okHead 0 ((settleS S (mendAt S 1 c).flatten).getD 0 []) c := by rw [f 0 (by omega)]; exact h0
    exact ⟨h.far (fun i hi => f _ (by omega)) (by rw [ok_cnt hn8 hc g0, ok_cnt hn8 hc e]; omega), g0, e⟩
  · rw [mend, mendAt_ok h1, List.append_nil]
    obtain ⟨e, f⟩ := mendAt_done (p := 0) (c := c) hS (by omega)
    have g1 : okHead 1 ((settleS S (mendAt S 0 c).flatten).getD 1 []) c := by rw [f 1 (by omega)]; exact h1
    exact ⟨h.far (fun i hi => f _ (by omega)) (by rw [ok_cnt hn8 hc g1, ok_cnt hn8 hc e]; omega), e, g1⟩
theorem Good.mend {n c : Nat} {S a : List (List UInt8)} (h : Good n S c a) : mend S c = [] := by
  rw [Go.Proofs.YtihoomlaggihlaaDoor.mend, mendAt_ok h.one, mendAt_ok h.two]; rfl

/-- what an Append writes -/
def appSegs (c : Nat) (ts : List (List UInt8)) : List (List (Nat × List UInt8)) :=
  [rowAt (2 + c) (ts.map fun _ => zeroT), rowAt (2 + c) (sects (2 + c) ts), [(1, headP 1 (c + ts.length))], [(0, headP 0 (c + ts.length))]]
theorem app_body {n c : Nat} {S T a b ts : List (List UInt8)} (h : Opn n S c a) (hb : okR b) (hf : ts.flatten = textP b) (hts : ∀ t ∈ ts, 1 ≤ t.length ∧ t.length ≤ 46) (hT : ∀ i, i < c → T.getD (2 + i) [] = S.getD (2 + i) []) (hU : ∀ i (hi : i < ts.length), T.getD (2 + c + i) [] = sectP (2 + c + i) ts[i])
    (top : max (cnt 0 (T.getD 0 []) (n - 2)) (cnt 1 (T.getD 1 []) (n - 2)) = ((c + ts.length : Nat) : Int)) : Opn n T (c + ts.length) (a ++ b) := by
  obtain ⟨us, h1, h2, h3⟩ := h.body
  refine ⟨top, ⟨us ++ ts, by simp [h1], fun i hi => ?_, by rw [List.flatten_append, h3, hf, textP_app]⟩, fun r hr => ?_⟩
  · by_cases hc : i < us.length
    · rw [List.getElem_append_left hc, hT i (by omega)]; exact h2 i hc
    · rw [List.getElem_append_right (by omega)]
      have hi' : i - us.length < ts.length := by simp at hi; omega
      have := hU (i - us.length) hi'
      rw [show 2 + c + (i - us.length) = 2 + i by omega] at this
      exact ⟨(hts _ (List.getElem_mem hi')).1, (hts _ (List.getElem_mem hi')).2, this⟩
  · rcases List.mem_append.1 hr with e | e
    · exact h.ok r e
    · exact hb r e
theorem app_both {n c : Nat} {S a b ts : List (List UInt8)} (h : Good n S c a) (hS : Sec n S) (hn : 3 ≤ n) (hn8 : n - 2 < 10 ^ 8) (hb : okR b) (hf : ts.flatten = textP b) (hts : ∀ t ∈ ts, 1 ≤ t.length ∧ t.length ≤ 46) (hroom : c + ts.length ≤ n - 2) :
    (∀ T, Crash S (appSegs c ts) T → Opn n T c a ∨ Opn n T (c + ts.length) (a ++ b)) ∧ Good n (settleS S (appSegs c ts).flatten) (c + ts.length) (a ++ b) := by
  have hc := h.opn.le hn8
  have z64 : ∀ t ∈ ts.map (fun _ => zeroT), t.length = 64 := fun t ht => by
    obtain ⟨_, _, rfl⟩ := List.mem_map.1 ht
    exact zeroT_len
  have s64 := sects_64 (2 + c) ts (fun t ht => (hts t ht).2)
  have hz1 : ∀ (i : Nat), i < 2 + c → ∀ p ∈ rowAt (2 + c) (ts.map fun _ => zeroT), p.1 ≠ i := fun i hi p hp => by have := rowAt_mem _ _ p hp; omega
  have hs1 : ∀ (i : Nat), i < 2 + c → ∀ p ∈ rowAt (2 + c) (sects (2 + c) ts), p.1 ≠ i := fun i hi p hp => by have := rowAt_mem _ _ p hp; omega
  have S1 : Sec n (settleS S (rowAt (2 + c) (ts.map fun _ => zeroT))) := hS.settle (rowAt_whole (by simp; omega) z64).le
  have S2 : Sec n (settleS (settleS S (rowAt (2 + c) (ts.map fun _ => zeroT))) (rowAt (2 + c) (sects (2 + c) ts))) := S1.settle (rowAt_whole (by rw [sects_len]; omega) s64).le
  have f1 : ∀ i, i < 2 + c → (settleS S (rowAt (2 + c) (ts.map fun _ => zeroT))).getD i [] = S.getD i [] := fun i hi => settle_far (hz1 i hi)
  have f2 : ∀ i, i < 2 + c → (settleS (settleS S (rowAt (2 + c) (ts.map fun _ => zeroT))) (rowAt (2 + c) (sects (2 + c) ts))).getD i [] = S.getD i [] := fun i hi => (settle_far (hs1 i hi)).trans (f1 i hi)
  have g2 : ∀ i (hi : i < ts.length), (settleS (settleS S (rowAt (2 + c) (ts.map fun _ => zeroT))) (rowAt (2 + c) (sects (2 + c) ts))).getD (2 + c + i) [] = sectP (2 + c + i) ts[i] := fun i hi => by
    rw [Sec.row S1 (by rw [sects_len]; omega) s64 i (by rw [sects_len]; exact hi), sects_get]
  generalize hA : settleS (settleS S (rowAt (2 + c) (ts.map fun _ => zeroT))) (rowAt (2 + c) (sects (2 + c) ts)) = A at *
  have hle : ∀ T, (∀ i, i < 2 + c → T.getD i [] = S.getD i []) → Opn n T c a := fun T hT => h.opn.far (fun i hi => hT _ (by omega)) (by rw [hT 0 (by omega), hT 1 (by omega)]; exact h.opn.top)
  have S3 : Sec n (put1 A 1 (headP 1 (c + ts.length))) := S2.put (by omega) (by rw [head_len]; omega)
  constructor
  · intro T hcr
    unfold appSegs at hcr
    cases hcr with
    | here k j => exact Or.inl (hle _ fun i hi => fail_far (hz1 i hi))
    | later hcr =>
      cases hcr with
      | here k j => exact Or.inl (hle _ fun i hi => (fail_far (hs1 i hi)).trans (f1 i hi))
      | later hcr =>
        rw [hA] at hcr
        cases hcr with
        | here k j =>
          obtain ⟨j', e, f⟩ := fail_one S2 (p := 1) (by omega) (head_len 1 (c + ts.length)) k j
          rw [f2 1 (by omega)] at e
          by_cases hh : ∃ m, m ≤ n - 2 ∧ headP 1 m = torn j' (headP 1 (c + ts.length)) (S.getD 1 [])
          · obtain ⟨m, hm, hh⟩ := hh
            rcases torn_over h.two hh with k2 | k2
            · left
              refine h.opn.far (fun i hi => (f _ (by omega)).trans (f2 _ (by omega))) ?_
              rw [e, k2, f 0 (by omega), f2 0 (by omega)]; exact h.opn.top
            · right
              refine app_body h.opn hb hf hts (fun i hi => (f _ (by omega)).trans (f2 _ (by omega))) (fun i hi => (f _ (by omega)).trans (g2 i hi)) ?_
              rw [e, k2, f 0 (by omega), f2 0 (by omega), cnt_head hn8 hroom, ok_cnt hn8 hc h.one]; omega
          · left
            refine h.opn.far (fun i hi => (f _ (by omega)).trans (f2 _ (by omega))) ?_
            have hl : cnt 1 (torn j' (headP 1 (c + ts.length)) (S.getD 1 [])) (n - 2) ≤ c := cnt_le hn8 (by omega) (fun m hm e => absurd ⟨m, hm, e⟩ hh)
            rw [e, f 0 (by omega), f2 0 (by omega), ok_cnt hn8 hc h.one]; omega
        | later hcr =>
          rw [settle_cons, settle_nil] at hcr
          cases hcr with
          | later hcr => cases hcr
          | here k j =>
            obtain ⟨j', e, f⟩ := fail_one S3 (p := 0) (by omega) (head_len 0 (c + ts.length)) k j
            right
            rw [put_far (by omega), f2 0 (by omega)] at e
            refine app_body h.opn hb hf hts (fun i hi => (f _ (by omega)).trans ((put_far (by omega)).trans (f2 _ (by omega)))) (fun i hi => (f _ (by omega)).trans ((put_far (by omega)).trans (g2 i hi))) ?_
            have hl : cnt 0 (torn j' (headP 0 (c + ts.length)) (S.getD 0 [])) (n - 2) ≤ (c + ts.length : Nat) := cnt_le hn8 (by omega) (fun m hm hh => by
              rcases torn_over h.one hh with k2 | k2
              · rw [k2] at hh
                have := ok_cnt hn8 hc h.one
                rw [← hh, cnt_head hn8 hm] at this
                omega
              · rw [k2] at hh
                rw [head_inj (p := 0) (by omega) (by omega) hh]; exact Int.le_refl _)
            rw [e, f 1 (by omega), put_own S2 (by omega) (head_len _ _), cnt_head hn8 hroom]; omega
  · have e : settleS S (appSegs c ts).flatten = put1 (put1 A 1 (headP 1 (c + ts.length))) 0 (headP 0 (c + ts.length)) := by
      rw [← hA]
      simp [appSegs, settleS]
    rw [e]
    have e0 : (put1 (put1 A 1 (headP 1 (c + ts.length))) 0 (headP 0 (c + ts.length))).getD 0 [] = headP 0 (c + ts.length) := put_own S3 (by omega) (head_len _ _)
    have e1 : (put1 (put1 A 1 (headP 1 (c + ts.length))) 0 (headP 0 (c + ts.length))).getD 1 [] = headP 1 (c + ts.length) := (put_far (by omega)).trans (put_own S2 (by omega) (head_len _ _))
    exact ⟨app_body h.opn hb hf hts (fun i hi => (put_far (by omega)).trans ((put_far (by omega)).trans (f2 _ (by omega)))) (fun i hi => (put_far (by omega)).trans ((put_far (by omega)).trans (g2 i hi))) (by rw [e0, e1, cnt_head hn8 hroom, cnt_head hn8 hroom]; omega), Or.inl e0, Or.inl e1⟩
end Go.Proofs.YtihoomlaggihlaaDoor

namespace Go.Proofs.YtihoomlaggihlaaDoor

/-- a byte in the place of another one -/
theorem rot_sealed {p : List UInt8} {c : List UInt8} (hp : p.length = 8) (hc : c.length = 48) {i : Nat} (hi : i < 64) {v : UInt8} (hv : (sealT p c).getD i 0 ≠ v) : ¬ sealed p ((sealT p c).set i v) := by
  unfold sealT at *
  by_cases h : i < 16
  · rw [List.set_append_left _ _ (by rw [dig_len]; exact h)]
    refine seal_digest (by rw [List.length_set, dig_len]) (fun e => hv ?_)
    rw [List.getD_eq_getElem?_getD, List.getElem?_append_left (by rw [dig_len]; exact h), ← e, List.getElem?_set_self (by rw [dig_len]; exact h)]; rfl
  · rw [List.set_append_right _ _ (by rw [dig_len]; omega), dig_len]
    rw [List.getD_eq_getElem?_getD, List.getElem?_append_right (by rw [dig_len]; omega), dig_len] at hv
    -- the block
    have hsplit : c = c.take (8 * ((i - 16) / 8)) ++ ((c.drop (8 * ((i - 16) / 8))).take 8 ++ c.drop (8 * ((i - 16) / 8) + 8)) := by
      rw [← List.drop_drop, List.take_append_drop, List.take_append_drop]
    have hset : c.set (i - 16) v = c.take (8 * ((i - 16) / 8)) ++ (((c.drop (8 * ((i - 16) / 8))).take 8).set ((i - 16) % 8) v ++ c.drop (8 * ((i - 16) / 8) + 8)) := by
      conv => lhs; rw [hsplit]
      rw [List.set_append_right _ _ (by simp; omega), List.set_append_left _ _ (by simp; omega)]
      congr 3
      simp; omega
    rw [hset]
    have hb : ((c.drop (8 * ((i - 16) / 8))).take 8).length = 8 := by simp; omega
    have key := seal_block (p := p) (a := c.take (8 * ((i - 16) / 8))) (b := (c.drop (8 * ((i - 16) / 8))).take 8) (b' := ((c.drop (8 * ((i - 16) / 8))).take 8).set ((i - 16) % 8) v) (c := c.drop (8 * ((i - 16) / 8) + 8)) (n := (i - 16) / 8 + 1) (by simp; omega) hb (by rw [List.length_set]; exact hb) (fun e => by
      have e2 := congrArg (fun l => l[(i - 16) % 8]?) e
      rw [List.getElem?_set_self (by rw [hb]; omega), List.getElem?_take_of_lt (by omega), List.getElem?_drop] at e2
      rw [show 8 * ((i - 16) / 8) + (i - 16) % 8 = i - 16 by omega] at e2
      exact hv (by rw [e2]; rfl)) (by rw [← hsplit]; simp; omega)
    rw [← hsplit] at key
    exact key
theorem rot_zero {p m i : Nat} {v : UInt8} (hv : v ≠ 0) : headP p m ≠ zeroT.set i v ∧ zeroT.set i v ≠ zeroT ∨ 64 ≤ i := by
  by_cases hi : i < 64
  · left
    constructor
    · intro e
      refine head_nz p m (if i = 0 then 1 else 0) (by split <;> omega) ?_
      rw [e, List.getD_eq_getElem?_getD, List.getElem?_set_ne (by split <;> omega), ← List.getD_eq_getElem?_getD, zeroT_getD]
    · intro e
      have := congrArg (fun l => l[i]?) e
      rw [List.getElem?_set_self (by rw [zeroT_len]; exact hi), zeroT, List.getElem?_replicate, if_pos hi] at this
      exact hv (by simpa using this)
  · right; omega
/-- a head that rots tells no count but what the old one told -/
theorem rot_head {p c i room : Nat} {s : List UInt8} {v : UInt8} (hr : room < 10 ^ 8) (h : okHead p s c) (hi : i < 64) (hv : s.getD i 0 ≠ v) : cnt p (s.set i v) room ≤ c := by
  refine cnt_le hr (by omega) (fun m _ e => ?_)
  exfalso
  rcases h with rfl | ⟨rfl, rfl⟩
  · rw [head_eq p c] at e hv
    have := rot_sealed (p := decs 8 p []) (c := decs 8 c [] ++ List.replicate 40 0) (by rw [decs_len]; rfl) (by rw [List.length_append, decs_len]; simp) hi hv
    exact this ⟨_, by rw [← e, head_eq]⟩
  · rw [zeroT_getD] at hv
    rcases rot_zero (p := p) (m := m) (i := i) (Ne.symm hv) with k | k
    · exact k.1 e
    · omega
theorem rot_law {n c q i : Nat} {S a : List (List UInt8)} {v : UInt8} (h : Good n S c a) (hS : Sec n S) (hn8 : n - 2 < 10 ^ 8) (hq : q < n) (hi : i < 64) (hv : (S.getD q []).getD i 0 ≠ v) :
    Opn n (S.set q ((S.getD q []).set i v)) c a ∨ ∀ c' a', ¬ Opn n (S.set q ((S.getD q []).set i v)) c' a' := by
  have hc := h.opn.le hn8
  have own : (S.set q ((S.getD q []).set i v)).getD q [] = (S.getD q []).set i v := by
    rw [List.getD_eq_getElem?_getD, List.getElem?_set_self (by rw [hS.1]; exact hq)]; rfl
  have far : ∀ j, j ≠ q → (S.set q ((S.getD q []).set i v)).getD j [] = S.getD j [] := fun j hj => by
    rw [List.getD_eq_getElem?_getD, List.getElem?_set_ne (Ne.symm hj), ← List.getD_eq_getElem?_getD]
  by_cases q0 : q = 0
  · subst q0
    left
    refine h.opn.far (fun j hj => far _ (by omega)) ?_
    rw [own, far 1 (by omega), ok_cnt hn8 hc h.two]
    have := rot_head hn8 h.one hi hv
    omega
  by_cases q1 : q = 1
  · subst q1
    left
    refine h.opn.far (fun j hj => far _ (by omega)) ?_
    rw [own, far 0 (by omega), ok_cnt hn8 hc h.one]
    have := rot_head hn8 h.two hi hv
    omega
  by_cases hqc : 2 + c ≤ q
  · left
    exact h.opn.far (fun j hj => far _ (by omega)) (by rw [far 0 (by omega), far 1 (by omega)]; exact h.opn.top)
  · right
    intro c' a' g
    have e : c' = c := by
      have := g.top
      rw [far 0 (by omega), far 1 (by omega), h.opn.top] at this
      omega
    subst e
    obtain ⟨ts, h1, h2, _⟩ := g.body
    obtain ⟨us, u1, u2, _⟩ := h.opn.body
    have k := h2 (q - 2) (by omega)
    have k' := u2 (q - 2) (by omega)
    rw [show 2 + (q - 2) = q by omega] at k k'
    rw [own] at k
    rw [k'.2.2] at k hv
    have := rot_sealed (p := decs 8 q []) (c := fillT (decs 2 us[q - 2].length [] ++ us[q - 2])) (by rw [decs_len]; rfl) (fill_len (by rw [List.length_append, decs_len]; simp; omega)) hi hv
    exact this ⟨_, k.2.2⟩
end Go.Proofs.YtihoomlaggihlaaDoor
