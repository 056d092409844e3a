/- The walk of the law DateUnion at every list. Under the condition that the tables lie in memory as the program lays them. -/
import Derived.Test.YtjebbmnjegndkaaDoorV
namespace Go.Proofs.YtjebbmnjegndkaaDoor

theorem union_walk (A : Option Addr) (c : Nat) (l : List (Int × Int)) (d : Int) (w : World) (hL : Laid w) (hR : Rd w A l) : Calls Tryd.prog 7 #[.slice A l.length c, .int .i64 d] w (Yes w) := by
  by_cases h : l.length ≤ 30
  · cases hp : (l.any fun x => !prp x) with
    | true => exact union_law_bad A c l d w hL hR h hp
    | false =>
      refine union_law_good A c l d w hL hR h (fun p hpm => ?_)
      have := List.any_eq_false.1 hp p hpm
      simpa using this
  · exact union_long A l.length c d w hL (by omega)
end Go.Proofs.YtjebbmnjegndkaaDoor
