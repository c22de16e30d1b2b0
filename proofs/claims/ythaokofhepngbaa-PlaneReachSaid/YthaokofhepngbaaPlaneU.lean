/-
  Layer 36 (plane): the law PlaneReach, whole.
-/
import Derived.Test.YthaokofhepngbaaPlaneT
namespace Go.Proofs.Ythaokofhepngbaa
open Go.RowKit PlaneMath MyHeap MyOwn

theorem ReachLaw_call (a : Option Addr) (n c : Nat) (l : List (Int × Int)) (z v pull : Int) (w : World) (hl : Go.MyPair.Rd w a n l) :
    Calls Try.prog 5 #[.agg #[.int .i64 z, .int .i64 v], .slice a n c, .int .i64 pull] w fun e w' => e = .returned (.bool true) ∧ Below w.heap.size w w' := by
  by_cases hn : 300 < n
  · exact ReachLaw_long a n c z v pull w hn
  · have hP := prs_rd hl (by omega)
    by_cases hr : rchE z v pull n = 0
    · by_cases hp : pthE z v pull l = 0
      · exact ReachLaw_good a n c l z v pull w hP hr hp
      · exact ReachLaw_err a n c l z v pull w hP (by omega) (Or.inr hp)
    · exact ReachLaw_err a n c l z v pull w hP (by omega) (Or.inl hr)
end Go.Proofs.Ythaokofhepngbaa
