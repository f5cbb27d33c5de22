/- Tests of a start state and a sequence. -/
import Derived.Test.YtohjbabjkjcddaaDoorAlg
namespace Go.Proofs.YtohjbabjkjcddaaDoor
open Go.RowKit

/-- whether all numbers of a list are in 0..n-1 -/
def belowB (n : Int) (l : List Int) : Bool := decide (∀ a ∈ l, inB a 0 (n - 1) = true)
theorem belowB_not {n : Int} {l : List Int} {k : Nat} (hk : k < l.length) (h : inB (nth l k) 0 (n - 1) = false) : belowB n l = false := by
  refine decide_eq_false fun h' => ?_
  rw [h' _ (nth_mem hk)] at h
  cases h
theorem belowB_of {n : Int} {l : List Int} (h : ∀ k, k < l.length → inB (nth l k) 0 (n - 1) = true) : belowB n l = true := by
  refine decide_eq_true fun a ha => ?_
  obtain ⟨k, hk, rfl⟩ := mem_iff_nth.1 ha
  exact h k hk
theorem belowB_at {n : Int} {l : List Int} (h : belowB n l = true) {k : Nat} (hk : k < l.length) : 0 ≤ nth l k ∧ nth l k < n := by
  have := inB_true.1 (of_decide_eq_true h _ (nth_mem hk))
  omega
theorem below_any (n : Int) (l : List Int) : (!l.any fun a => !inB a 0 (n - 1)) = belowB n l := by
  rw [List.not_any_eq_all_not, Bool.eq_iff_iff, List.all_eq_true]
  simp [belowB]

/-- whether a list is a sequence of a problem with m requests -/
def seqB (m : Nat) (reqs : List Int) : Bool := decide (reqs.length ≤ 60) && belowB m reqs
def startB (M S : List (List Int)) (start : Int) (reqs : List Int) : Bool := probB M S && inB start 0 (M.length - 1) && seqB S.length reqs

end Go.Proofs.YtohjbabjkjcddaaDoor
