/- The greatest growth of a work list, and the configuration where it is: plain laws. -/
import Derived.Test.YtmgcfnciejfpbaaGreatRQcP
import Derived.Test.YtmgcfnciejfpbaaGreatRWlP
namespace Go.Proofs.YtmgcfnciejfpbaaGreat
open Go.RowKit

--PURE
/-- the greatest growth among the first values, at least 0 -/
def grwTo (ws nx : List Int) : Nat → Int
  | 0 => 0
  | i + 1 => max (grwTo ws nx i) (nth nx i - nth ws i)
def gwR (M : List (List Int)) (k : Int) (ws : List Int) (r : Int) : Int := if stB M k ws r then grwTo ws (stL M k ws r) (stL M k ws r).length else 0
theorem grw_spec {ws nx : List Int} : ∀ i, 0 ≤ grwTo ws nx i ∧ (∀ j, j < i → nth nx j - nth ws j ≤ grwTo ws nx i) ∧ (grwTo ws nx i = 0 ∨ ∃ j, j < i ∧ grwTo ws nx i = nth nx j - nth ws j)
  | 0 => ⟨by simp [grwTo], by omega, .inl rfl⟩
  | i + 1 => by
    obtain ⟨h1, h2, h3⟩ := grw_spec (ws := ws) (nx := nx) i
    rw [grwTo]
    refine ⟨by omega, fun j hj => ?_, ?_⟩
    · by_cases e : j = i
      · rw [e]; omega
      · have := h2 j (by omega); omega
    · by_cases e : grwTo ws nx i ≤ nth nx i - nth ws i
      · exact .inr ⟨i, by omega, by omega⟩
      · rcases h3 with h3 | ⟨j, hj, h3⟩
        · exact .inl (by omega)
        · exact .inr ⟨j, by omega, by omega⟩
end Go.Proofs.YtmgcfnciejfpbaaGreat
