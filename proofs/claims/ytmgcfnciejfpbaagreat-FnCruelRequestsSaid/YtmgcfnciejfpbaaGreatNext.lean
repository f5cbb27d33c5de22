/- The work function after one more request, as the reference makes it. -/
import Derived.Test.YtmgcfnciejfpbaaGreatWorkP
import Derived.Test.YtmgcfnciejfpbaaGreatSl
import Derived.IntWalk
namespace Go.Proofs.YtmgcfnciejfpbaaGreat
open Go.RowKit

def nextTo (M S : List (List Int)) (w : List Int) (r t : Nat) : List Int := (List.range t).map fun t => nextAt M S w r t
theorem nextTo_succ (M S : List (List Int)) (w : List Int) (r t : Nat) : nextTo M S w r (t + 1) = nextTo M S w r t ++ [nextAt M S w r t] := by simp [nextTo, List.range_succ]
theorem nextTo_length (M S : List (List Int)) (w : List Int) (r t : Nat) : (nextTo M S w r t).length = t := by simp [nextTo]
theorem nextTo_all (M S : List (List Int)) (w : List Int) (r : Nat) : nextTo M S w r w.length = nextL M S w r := rfl

end Go.Proofs.YtmgcfnciejfpbaaGreat
