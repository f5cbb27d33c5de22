/- The program's search for a detour, IsMetric, IsProblem. -/
import Derived.Test.YtohjbabjkjcddaaDoorImplA
namespace Go.Proofs.YtohjbabjkjcddaaDoor
open Go.RowKit

theorem ret_tuple2 {a b c d : Value} (h1 : a = c) (h2 : b = d) : Ending.returned (.tuple #[a, b]) = .returned (.tuple #[c, d]) := by rw [h1, h2]

def isNil (xs : List Int) : Bool := decide (xs = [])

theorem costs_any (costs : List Int) : costs.any (fun c => !inB c (-1) 20) = !costsOk costs := by
  rw [Bool.eq_iff_iff, Bool.not_eq_true', List.any_eq_true]
  constructor
  · rintro ⟨c, hc, h⟩
    obtain ⟨k, hk, rfl⟩ := mem_iff_nth.1 hc
    exact costsOk_not hk (by simpa using h)
  · intro h
    apply Classical.byContradiction
    intro h2
    have : costsOk costs = true := by
      simp only [costsOk, decide_eq_true_eq]
      intro c hc
      apply Classical.byContradiction
      intro h3
      exact h2 ⟨c, hc, by rw [inB_false.2 h3]; rfl⟩
    rw [this] at h
    cases h

theorem reqs_any (n : Int) (S : List (List Int)) : (!S.any fun r => !reqB n r) = decide (∀ r ∈ S, reqB n r = true) := by
  rw [List.not_any_eq_all_not, Bool.eq_iff_iff, decide_eq_true_eq, List.all_eq_true]
  simp

end Go.Proofs.YtohjbabjkjcddaaDoor
