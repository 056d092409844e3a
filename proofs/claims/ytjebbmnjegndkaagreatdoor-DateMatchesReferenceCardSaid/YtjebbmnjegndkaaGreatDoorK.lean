/- The walks of the laws DateFollows, DateBack, DateWeeks. Under the condition that the tables lie in memory as the program lays them. -/
import Derived.Test.YtjebbmnjegndkaaGreatDoorJ
import Derived.Test.YtjebbmnjegndkaaGreatDoorPlainB
namespace Go.Proofs.YtjebbmnjegndkaaGreatDoor
open Go.RowKit

/-- what a law leaves -/
def Yes (w : World) (e : Ending) (w' : World) : Prop := e = .returned (.bool true) ∧ Below w.heap.size w w'

theorem rlen_at {y m L : Int} (h : len y m = L) (w : World) (h0 : 0 ≤ y) (h1 : y ≤ 100000) (m1 : 1 ≤ m) (m2 : m ≤ 12) :
    Calls Tryz.prog 21 #[.int .i64 y, .int .i64 m] w fun e w' => e = .returned (.int .i64 L) ∧ w = w' := by
  have := rlength_any y m w h0 h1 m1 m2
  rwa [h] at this

end Go.Proofs.YtjebbmnjegndkaaGreatDoor
