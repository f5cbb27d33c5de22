/- Small walks for offsets: sameness, places, normal lists. -/
import Derived.Test.YtkniohcmhdgbeaaOffsP
import Derived.Test.YtkniohcmhdgbeaaWorkW
import Derived.Test.YtkniohcmhdgbeaaLib
namespace Go.Proofs.Ytkniohcmhdgbeaa
open Go.RowKit

def normTo (w : List Int) (k : Nat) : List Int := (List.range k).map fun i => nth w i - leastL w
theorem normTo_succ (w : List Int) (k : Nat) : normTo w (k + 1) = normTo w k ++ [nth w k - leastL w] := by simp [normTo, List.range_succ]
theorem normTo_length (w : List Int) (k : Nat) : (normTo w k).length = k := by simp [normTo]
theorem normTo_all (w : List Int) : normTo w w.length = normL w := by
  refine eq_of_nth (by rw [normTo_length, normL_length]) fun j hj => ?_
  rw [normTo_length] at hj
  rw [nth_normL hj]
  simp [normTo, nth, hj]

end Go.Proofs.Ytkniohcmhdgbeaa
