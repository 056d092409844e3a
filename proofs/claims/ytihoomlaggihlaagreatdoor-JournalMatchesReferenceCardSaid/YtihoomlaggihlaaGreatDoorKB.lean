/- The contracts of Atoi as the journal calls it, and of head, sector and count. Under the condition that the tables lie in memory as the program lays them. -/
import Derived.Test.YtihoomlaggihlaaGreatDoorKA
import Derived.Test.YtihoomlaggihlaaGreatDoorKN
import Derived.Test.YtihoomlaggihlaaGreatDoorShB
namespace Go.Proofs.YtihoomlaggihlaaGreatDoor
open Go.RowKit

/-- what Atoi leaves of a text that is a number, and of one that is none -/
theorem atoi_yes (s : ByteArray) (w : World) (hs : s.size ≤ 1000000) (v : Int) (h : Lib.atoiAll s.data.toList = .ok v) : Calls Tryz.prog 34 #[.string s] w fun e w' => e = .returned (.tuple #[.int .i64 v, .nilIface]) ∧ Below w.heap.size w w' := by
  have := Any.strconv_Atoi_ok Tryz.laysC172 s (by omega) v h w
  change Calls Tryz.prog 34 _ _ _ at this
  refine this.mono ?_
  rintro e w' ⟨rfl, hw⟩
  refine ⟨rfl, ?_⟩
  rcases hw with rfl | ⟨t, rfl⟩
  · exact Below.refl _ _
  · exact Lib.bytesWorld_below _ _ _
theorem atoi_no (s : ByteArray) (w : World) (hs : s.size ≤ 1000000) (hL : Laid w) (h : ∀ v, Lib.atoiAll s.data.toList ≠ .ok v) : Calls Tryz.prog 34 #[.string s] w fun e w' => ∃ (v : Int) (N : Nat), e = .returned (.tuple #[.int .i64 v, .iface 111 (.pointer (some ⟨N, 0, none⟩))]) ∧ Below w.heap.size w w' := by
  obtain ⟨e1, c1, d1⟩ := hL.e0
  obtain ⟨e2, c2, d2⟩ := hL.e1
  cases k : Lib.atoiAll s.data.toList
  · exact absurd k (h _)
  · have := Any.strconv_Atoi_syntax Tryz.laysC172 s (by omega) k e1 w c1 d1
    change Calls Tryz.prog 34 _ _ _ at this
    refine this.mono ?_
    rintro e w' ⟨N, rfl, _, _, hb⟩
    exact ⟨_, N, rfl, hb⟩
  · have := Any.strconv_Atoi_range Tryz.laysC172 s (by omega) k e2 w c2 d2
    change Calls Tryz.prog 34 _ _ _ at this
    refine this.mono ?_
    rintro e w' ⟨N, rfl, _, _, hb⟩
    exact ⟨_, N, rfl, hb⟩
set_option maxHeartbeats 4000000 in
set_option maxRecDepth 100000 in
theorem head_any' (w : World) (p n : Nat) (hp : p < 10 ^ 8) (hn : n < 10 ^ 8) (hL : Laid w) :
    Calls Tryz.prog 39 #[.int .i64 p, .int .i64 n] w fun e w' => e = .returned (.string ⟨(headP p n).toArray⟩) ∧ Below w.heap.size w w' := by
  have HL := Lib.hid hL
  have HD := Lib.hid (digits_any w n 8 (by omega) hn (by omega) hL)
  have HP := Lib.hid hp
  clear hp hn hL
  go_enter Tryz.func39, Tryz.ntmps39
  go_wp2_with fail
  refine HD.out.mono ?_
  rintro e w1 ⟨rfl, hb⟩
  have HB := Lib.hid hb
  clear hb HD
  go_wp2_with fail
  refine (seal_any w1 p (decs 8 n []) HP.out (by rw [decs_len]; simp) (HL.out.keep HB.out)).mono ?_
  rintro e w2 ⟨rfl, hb⟩
  have HB2 := Lib.hid (HB.out.trans (hb.mono HB.out.size))
  clear hb
  go_wp2_with fail
  go_ret
  exact ⟨rfl, HB2.out⟩
set_option maxHeartbeats 4000000 in
set_option maxRecDepth 100000 in
theorem sector_any (w : World) (p : Nat) (t : List UInt8) (hp : p < 10 ^ 8) (ht : t.length ≤ 46) (hL : Laid w) :
    Calls Tryz.prog 35 #[.int .i64 p, .string ⟨t.toArray⟩] w fun e w' => e = .returned (.string ⟨(sectP p t).toArray⟩) ∧ Below w.heap.size w w' := by
  have HL := Lib.hid hL
  have HD := Lib.hid (digits_any w t.length 2 (by omega) (by omega) (by omega) hL)
  have HP := Lib.hid hp
  have hsz : (⟨t.toArray⟩ : ByteArray).size = t.length := by simp [ByteArray.size]
  clear hp hL
  go_enter Tryz.func35, Tryz.ntmps35
  go_wp2_with fail
  refine HD.out.mono ?_
  rintro e w1 ⟨rfl, hb⟩
  have HB := Lib.hid hb
  clear hb HD
  have h2 : (⟨(decs 2 t.length []).toArray⟩ : ByteArray).size = 2 := by simp [ByteArray.size, decs_len]
  go_wp2_with fail
  rw [← str_app]
  refine (seal_any w1 p (decs 2 t.length [] ++ t) HP.out (by rw [List.length_append, decs_len]; simp; omega) (HL.out.keep HB.out)).mono ?_
  rintro e w2 ⟨rfl, hb⟩
  have HB2 := Lib.hid (HB.out.trans (hb.mono HB.out.size))
  clear hb
  go_wp2_with fail
  go_ret
  exact ⟨rfl, HB2.out⟩
set_option maxHeartbeats 4000000 in
set_option maxRecDepth 100000 in
theorem count_zeroT (w : World) (p room : Nat) : Calls Tryz.prog 33 #[.int .i64 p, .string ⟨zeroT.toArray⟩, .int .i64 room] w fun e w' => e = .returned (.int .i64 0) ∧ Below w.heap.size w w' := by
  have HZ := Lib.hid (zero_any w)
  generalize zeroT = z at *
  go_enter Tryz.func33, Tryz.ntmps33
  go_wp2_with fail
  refine HZ.out.mono ?_
  rintro e w1 ⟨rfl, hb⟩
  have HB := Lib.hid hb
  clear hb HZ
  go_wp2_with fail
  go_ret
  exact ⟨rfl, HB.out⟩
theorem ext_16 (s : List UInt8) (b : Nat) : ((⟨s.toArray⟩ : ByteArray).extract 16 b).data.toList = (s.drop 16).take (b - 16) := Lib.extract_data _ _ _
set_option maxHeartbeats 4000000 in
set_option maxRecDepth 100000 in
theorem count_bad (w : World) (p room : Nat) (s : List UInt8) (hs : s.length = 64) (hz : s ≠ zeroT) (hL : Laid w) (hv : ∀ v, Lib.atoiAll ((s.drop 16).take 8) ≠ .ok v) :
    Calls Tryz.prog 33 #[.int .i64 p, .string ⟨s.toArray⟩, .int .i64 room] w fun e w' => e = .returned (.int .i64 (-1)) ∧ Below w.heap.size w w' := by
  have HZ := Lib.hid (zero_any w)
  have HL := Lib.hid hL
  have HV := Lib.hid hv
  have HE := Lib.hid (ext_16 s 24)
  have hsz : (⟨s.toArray⟩ : ByteArray).size = 64 := by simp [ByteArray.size, hs]
  have hne : (s == zeroT) = false := by simpa using hz
  generalize zeroT = z at *
  clear hL hv hs hz
  go_enter Tryz.func33, Tryz.ntmps33
  go_wp2_with fail
  refine HZ.out.mono ?_
  rintro e w1 ⟨rfl, hb⟩
  have HB := Lib.hid hb
  clear hb HZ
  go_wp2_with fail
  refine (atoi_no _ w1 (by simp [ByteArray.size]; omega) (HL.out.keep HB.out) (by rw [HE.out]; exact HV.out)).mono ?_
  rintro e w2 ⟨v, N, rfl, hb⟩
  have HB2 := Lib.hid (HB.out.trans (hb.mono HB.out.size))
  clear hb
  go_wp2_with fail
  go_ret
  exact ⟨rfl, HB2.out⟩
set_option maxHeartbeats 4000000 in
set_option maxRecDepth 100000 in
theorem count_neg (w : World) (p room : Nat) (s : List UInt8) (v : Int) (hs : s.length = 64) (hz : s ≠ zeroT) (hL : Laid w) (hv : Lib.atoiAll ((s.drop 16).take 8) = .ok v) (hv0 : v < 0) :
    Calls Tryz.prog 33 #[.int .i64 p, .string ⟨s.toArray⟩, .int .i64 room] w fun e w' => e = .returned (.int .i64 (-1)) ∧ Below w.heap.size w w' := by
  have HZ := Lib.hid (zero_any w)
  have HL := Lib.hid hL
  have HV := Lib.hid hv
  have HE := Lib.hid (ext_16 s 24)
  have hsz : (⟨s.toArray⟩ : ByteArray).size = 64 := by simp [ByteArray.size, hs]
  have hne : (s == zeroT) = false := by simpa using hz
  generalize zeroT = z at *
  clear hL hv hs hz
  go_enter Tryz.func33, Tryz.ntmps33
  go_wp2_with fail
  refine HZ.out.mono ?_
  rintro e w1 ⟨rfl, hb⟩
  have HB := Lib.hid hb
  clear hb HZ
  go_wp2_with fail
  refine (atoi_yes _ w1 (by simp [ByteArray.size]; omega) v (by rw [HE.out]; exact HV.out)).mono ?_
  rintro e w2 ⟨rfl, hb⟩
  have HB2 := Lib.hid (HB.out.trans (hb.mono HB.out.size))
  clear hb
  go_wp2_with fail
  go_ret
  exact ⟨rfl, HB2.out⟩
set_option maxHeartbeats 4000000 in
set_option maxRecDepth 100000 in
theorem count_over (w : World) (p room : Nat) (s : List UInt8) (v : Int) (hs : s.length = 64) (hz : s ≠ zeroT) (hL : Laid w) (hv : Lib.atoiAll ((s.drop 16).take 8) = .ok v) (hv0 : 0 ≤ v) (hr : (room : Int) < v) :
    Calls Tryz.prog 33 #[.int .i64 p, .string ⟨s.toArray⟩, .int .i64 room] w fun e w' => e = .returned (.int .i64 (-1)) ∧ Below w.heap.size w w' := by
  have HZ := Lib.hid (zero_any w)
  have HL := Lib.hid hL
  have HV := Lib.hid hv
  have HE := Lib.hid (ext_16 s 24)
  have hsz : (⟨s.toArray⟩ : ByteArray).size = 64 := by simp [ByteArray.size, hs]
  have hne : (s == zeroT) = false := by simpa using hz
  generalize zeroT = z at *
  clear hL hv hs hz
  go_enter Tryz.func33, Tryz.ntmps33
  go_wp2_with fail
  refine HZ.out.mono ?_
  rintro e w1 ⟨rfl, hb⟩
  have HB := Lib.hid hb
  clear hb HZ
  go_wp2_with fail
  refine (atoi_yes _ w1 (by simp [ByteArray.size]; omega) v (by rw [HE.out]; exact HV.out)).mono ?_
  rintro e w2 ⟨rfl, hb⟩
  have HB2 := Lib.hid (HB.out.trans (hb.mono HB.out.size))
  clear hb
  go_wp2_with fail
  go_ret
  exact ⟨rfl, HB2.out⟩
set_option maxHeartbeats 4000000 in
set_option maxRecDepth 100000 in
theorem count_not (w : World) (p room : Nat) (s : List UInt8) (n : Nat) (hs : s.length = 64) (hz : s ≠ zeroT) (hL : Laid w) (hv : Lib.atoiAll ((s.drop 16).take 8) = .ok (n : Int)) (hp : p < 10 ^ 8) (hr8 : room < 10 ^ 8) (hr : n ≤ room) (hh : headP p n ≠ s) :
    Calls Tryz.prog 33 #[.int .i64 p, .string ⟨s.toArray⟩, .int .i64 room] w fun e w' => e = .returned (.int .i64 (-1)) ∧ Below w.heap.size w w' := by
  have HZ := Lib.hid (zero_any w)
  have HL := Lib.hid hL
  have HV := Lib.hid hv
  have HE := Lib.hid (ext_16 s 24)
  have hsz : (⟨s.toArray⟩ : ByteArray).size = 64 := by simp [ByteArray.size, hs]
  have hne : (s == zeroT) = false := by simpa using hz
  have HP := Lib.hid hp
  have HN := Lib.hid (show n < 10 ^ 8 by omega)
  have n0 : (0 : Int) ≤ (n : Int) := Int.natCast_nonneg _
  have n1 : (n : Int) ≤ (room : Int) := by omega
  clear hp hr hr8
  have hb2 : (headP p n == s) = false := by simpa using hh
  clear hh
  generalize zeroT = z at *
  clear hL hv hs hz
  go_enter Tryz.func33, Tryz.ntmps33
  go_wp2_with fail
  refine HZ.out.mono ?_
  rintro e w1 ⟨rfl, hb⟩
  have HB := Lib.hid hb
  clear hb HZ
  go_wp2_with fail
  refine (atoi_yes _ w1 (by simp [ByteArray.size]; omega) (n : Int) (by rw [HE.out]; exact HV.out)).mono ?_
  rintro e w2 ⟨rfl, hb⟩
  have HB2 := Lib.hid (HB.out.trans (hb.mono HB.out.size))
  clear hb
  go_wp2_with fail
  refine (head_any' w2 p n HP.out HN.out (HL.out.keep HB2.out)).mono ?_
  rintro e w3 ⟨rfl, hb⟩
  have HB3 := Lib.hid (HB2.out.trans (hb.mono HB2.out.size))
  clear hb
  generalize headP p n = h at *
  go_wp2_with fail
  go_ret
  exact ⟨rfl, HB3.out⟩
set_option maxHeartbeats 4000000 in
set_option maxRecDepth 100000 in
theorem count_is (w : World) (p room : Nat) (s : List UInt8) (n : Nat) (hs : s.length = 64) (hz : s ≠ zeroT) (hL : Laid w) (hv : Lib.atoiAll ((s.drop 16).take 8) = .ok (n : Int)) (hp : p < 10 ^ 8) (hr8 : room < 10 ^ 8) (hr : n ≤ room) (hh : headP p n = s) :
    Calls Tryz.prog 33 #[.int .i64 p, .string ⟨s.toArray⟩, .int .i64 room] w fun e w' => e = .returned (.int .i64 n) ∧ Below w.heap.size w w' := by
  have HZ := Lib.hid (zero_any w)
  have HL := Lib.hid hL
  have HV := Lib.hid hv
  have HE := Lib.hid (ext_16 s 24)
  have hsz : (⟨s.toArray⟩ : ByteArray).size = 64 := by simp [ByteArray.size, hs]
  have hne : (s == zeroT) = false := by simpa using hz
  have HP := Lib.hid hp
  have HN := Lib.hid (show n < 10 ^ 8 by omega)
  have n0 : (0 : Int) ≤ (n : Int) := Int.natCast_nonneg _
  have n1 : (n : Int) ≤ (room : Int) := by omega
  clear hp hr hr8
  have hb2 : (headP p n == s) = true := by simpa using hh
  clear hh
  generalize zeroT = z at *
  clear hL hv hs hz
  go_enter Tryz.func33, Tryz.ntmps33
  go_wp2_with fail
  refine HZ.out.mono ?_
  rintro e w1 ⟨rfl, hb⟩
  have HB := Lib.hid hb
  clear hb HZ
  go_wp2_with fail
  refine (atoi_yes _ w1 (by simp [ByteArray.size]; omega) (n : Int) (by rw [HE.out]; exact HV.out)).mono ?_
  rintro e w2 ⟨rfl, hb⟩
  have HB2 := Lib.hid (HB.out.trans (hb.mono HB.out.size))
  clear hb
  go_wp2_with fail
  refine (head_any' w2 p n HP.out HN.out (HL.out.keep HB2.out)).mono ?_
  rintro e w3 ⟨rfl, hb⟩
  have HB3 := Lib.hid (HB2.out.trans (hb.mono HB2.out.size))
  clear hb
  generalize headP p n = h at *
  go_wp2_with fail
  go_ret
  exact ⟨rfl, HB3.out⟩
theorem count_any' (w : World) (p room : Nat) (s : List UInt8) (hs : s.length = 64) (hp : p < 10 ^ 8) (hr : room < 10 ^ 8) (hL : Laid w) :
    Calls Tryz.prog 33 #[.int .i64 p, .string ⟨s.toArray⟩, .int .i64 room] w fun e w' => e = .returned (.int .i64 (cnt p s room)) ∧ Below w.heap.size w w' := by
  by_cases hz : s = zeroT
  · rw [hz, cnt_zero]; exact count_zeroT w p room
  by_cases hv : ∃ v, Lib.atoiAll ((s.drop 16).take 8) = .ok v
  · obtain ⟨v, hv⟩ := hv
    have hn : ∀ n, n ≤ room → headP p n = s → v = n := fun n hn e => by
      rw [← e, head_digits, atoi_decs (by omega) (by omega) (by omega)] at hv
      exact (Lib.NumEnd.ok.inj hv).symm
    by_cases h0 : v < 0
    · rw [cnt_none hz (fun n h e => by have := hn n h e; omega)]
      exact count_neg w p room s v hs hz hL hv h0
    by_cases hov : (room : Int) < v
    · rw [cnt_none hz (fun n h e => by have := hn n h e; omega)]
      exact count_over w p room s v hs hz hL hv (by omega) hov
    obtain ⟨n, rfl⟩ : ∃ n : Nat, v = n := ⟨v.toNat, by omega⟩
    by_cases hh : headP p n = s
    · have e : cnt p s room = n := by rw [← hh]; exact cnt_head hr (by omega)
      rw [e]
      exact count_is w p room s n hs hz hL hv hp hr (by omega) hh
    · rw [cnt_none hz (fun m h e => by have := hn m h e; rw [show n = m by omega] at hh; exact hh e)]
      exact count_not w p room s n hs hz hL hv hp hr (by omega) hh
  · rw [cnt_none hz (fun n h e => hv ⟨n, by rw [← e, head_digits]; exact atoi_decs (by omega) (by omega) (by omega)⟩)]
    exact count_bad w p room s hs hz hL (fun v e => hv ⟨v, e⟩)
end Go.Proofs.YtihoomlaggihlaaGreatDoor
