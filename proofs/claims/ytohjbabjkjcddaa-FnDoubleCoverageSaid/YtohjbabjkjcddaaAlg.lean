/- Tests of an algorithm: the reference's and the program's. -/
import Derived.Test.YtohjbabjkjcddaaCount
namespace Go.Proofs.Ytohjbabjkjcddaa
open Go.RowKit

/-- whether a request r can be served in s -/
def stOk (M S : List (List Int)) (r : Nat) (s : Int) : Bool := inB s 0 (M.length - 1) && decide (0 ≤ cell S r s.toNat)
def rowOk (M S : List (List Int)) (x : List Int) : Bool := decide (x.length = S.length) && decide (∀ r, r < x.length → stOk M S r (nth x r) = true)
def algB (M S next : List (List Int)) : Bool := decide (next.length = M.length) && decide (∀ x ∈ next, rowOk M S x = true)

theorem stOk_lt {M : List (List Int)} {s : Int} (h : inB s 0 (M.length - 1) = true) : 0 ≤ s ∧ s.toNat < M.length := by
  have := inB_true.1 h
  omega
theorem rowOk_not {M S : List (List Int)} {x : List Int} {r : Nat} (hr : r < x.length) (h : stOk M S r (nth x r) = false) : rowOk M S x = false := by
  rw [rowOk, Bool.and_eq_false_iff]
  refine .inr (decide_eq_false fun h' => ?_)
  rw [h' r hr] at h
  cases h
theorem algB_not {M S next : List (List Int)} {k : Nat} (hk : k < next.length) (h : rowOk M S (row next k) = false) : algB M S next = false := by
  rw [algB, Bool.and_eq_false_iff]
  refine .inr (decide_eq_false fun h' => ?_)
  rw [h' _ (row_mem hk)] at h
  cases h

theorem rows_all (M S next : List (List Int)) : (!next.any fun x => !rowOk M S x) = decide (∀ x ∈ next, rowOk M S x = true) := by
  rw [List.not_any_eq_all_not, Bool.eq_iff_iff, decide_eq_true_eq, List.all_eq_true]
  simp

def algR (M S next : List (List Int)) : Bool := probB M S && algB M S next

end Go.Proofs.Ytohjbabjkjcddaa
