/- The contract of Settle where an argument is none. Under no condition but sizes. -/
import Derived.Test.YtngbkdnkpolbfaaDoorFG
namespace Go.Proofs.YtngbkdnkpolbfaaDoor
open Go.RowKit Go.Maps

/-- whether Settle's arguments are proper -/
def argB (l : List Ord) (pn door : ByteArray) (day : Int) : Bool := decide (0 ≤ day ∧ day ≤ 100000) && (prpL l && (nmB pn && nmB door))
set_option maxHeartbeats 4000000 in
set_option maxRecDepth 100000 in
theorem settle_no (A : Option Addr) (c : Nat) (l : List Ord) (pn door : ByteArray) (day : Int) (w : World) (hL : Laid w) (hr : RdO w A l) (hl : l.length ≤ 1000) (hs : ∀ o ∈ l, Small o) (z1 : pn.size ≤ 1000) (z2 : door.size ≤ 1000) (h : argB l pn door day = false) :
    Calls Tryd.prog 12 #[.slice A l.length c, .string pn, .string door, .int .i64 day] w fun e w' => e = .returned (.tuple #[.string ⟨#[]⟩, .slice none 0 0, .int .i64 1]) ∧ Below w.heap.size w w' := by
  unfold argB at h
  by_cases hd : 0 ≤ day ∧ day ≤ 100000
  · rw [decide_eq_true hd, Bool.true_and] at h
    have HR := Lib.hid hr
    have HTX := Lib.hid (text_yes day w hL hd.1 hd.2)
    have HPL := Lib.hid (fun W (h : RdO W A l) => proper_list A c l W h hl hs)
    clear hd hL hr hs
    generalize txt day = tx at *
    cases h1 : prpL l
    · rw [h1] at HPL
      clear h h1
      go_enter Tryd.func12, Tryd.ntmps12
      go_wp2_with fail
      refine HTX.out.mono ?_
      rintro e w1 ⟨rfl, b1⟩
      have HB1 := Lib.hid b1
      have HP1 := Lib.hid (HPL.out w1 (HR.out.keep b1))
      clear b1 HTX HPL
      go_wp2_with fail
      refine HP1.out.mono ?_
      rintro e w2 ⟨rfl, b2⟩
      have HB2 := Lib.hid (HB1.out.trans (b2.mono HB1.out.size))
      clear b2 HP1
      go_wp2_with fail
      go_ret3
      exact ⟨rfl, HB2.out⟩
    · rw [h1] at HPL
      rw [h1, Bool.true_and] at h
      clear h1
      cases h2 : nmB pn
      · clear h
        go_enter Tryd.func12, Tryd.ntmps12
        go_wp2_with fail
        refine HTX.out.mono ?_
        rintro e w1 ⟨rfl, b1⟩
        have HB1 := Lib.hid b1
        have HP1 := Lib.hid (HPL.out w1 (HR.out.keep b1))
        clear b1 HTX HPL
        go_wp2_with fail
        refine HP1.out.mono ?_
        rintro e w2 ⟨rfl, b2⟩
        have HB2 := Lib.hid (HB1.out.trans (b2.mono HB1.out.size))
        clear b2 HP1
        go_wp2_with fail
        refine (name_at h2 _ z1).mono ?_
        rintro e w' ⟨rfl, rfl⟩
        go_wp2_with fail
        go_ret3
        exact ⟨rfl, HB2.out⟩
      · rw [h2, Bool.true_and] at h
        go_enter Tryd.func12, Tryd.ntmps12
        go_wp2_with fail
        refine HTX.out.mono ?_
        rintro e w1 ⟨rfl, b1⟩
        have HB1 := Lib.hid b1
        have HP1 := Lib.hid (HPL.out w1 (HR.out.keep b1))
        clear b1 HTX HPL
        go_wp2_with fail
        refine HP1.out.mono ?_
        rintro e w2 ⟨rfl, b2⟩
        have HB2 := Lib.hid (HB1.out.trans (b2.mono HB1.out.size))
        clear b2 HP1
        go_wp2_with fail
        refine (name_at h2 _ z1).mono ?_
        rintro e w' ⟨rfl, rfl⟩
        go_wp2_with fail
        refine (name_at h _ z2).mono ?_
        rintro e w' ⟨rfl, rfl⟩
        go_wp2_with fail
        go_ret3
        exact ⟨rfl, HB2.out⟩
  · clear h hL hr hs
    go_enter Tryd.func12, Tryd.ntmps12
    go_wp2_with fail
    refine (text_no day w (by omega)).mono ?_
    rintro e w' ⟨rfl, rfl⟩
    go_wp2_with fail
    go_ret3
    exact ⟨rfl, Below.refl _ _⟩
end Go.Proofs.YtngbkdnkpolbfaaDoor
