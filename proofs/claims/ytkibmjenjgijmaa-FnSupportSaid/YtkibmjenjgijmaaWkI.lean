/- Whether a list is a work list, and the next one: program and reference. -/
import Derived.Test.YtkibmjenjgijmaaWsv
import Derived.Test.YtkibmjenjgijmaaNxtS
import Derived.Test.YtkibmjenjgijmaaWkw
namespace Go.Proofs.Ytkibmjenjgijmaa
open Go.RowKit

def iwB (M : List (List Int)) (k : Int) (ws : List Int) : Bool := askB M k && workB M (confs M.length k.toNat 0) ws
theorem grt_below {xs : List Int} (h : ∀ x ∈ xs, 0 ≤ x) : belowB 100000 xs = decide (¬ 99999 < grtL xs) := by
  have h1 := grtL_below h
  cases hb : belowB 100000 xs with
  | true => rw [hb] at h1; simp at h1; simpa using h1
  | false => rw [hb] at h1; simp at h1; simpa using h1

end Go.Proofs.Ytkibmjenjgijmaa
