/- The program's tests of a metric. -/
import Derived.Test.YtohjbabjkjcddaaDoorLib
import Derived.Test.YtohjbabjkjcddaaDoorSpecB
namespace Go.Proofs.YtohjbabjkjcddaaDoor
open Go.RowKit

set_option maxHeartbeats 400000 in
theorem within_any (x a b : Int) (w : World) :
    Calls Tryd.prog 30 #[.int .i64 x, .int .i64 a, .int .i64 b] w fun e w' => e = .returned (.bool (inB x a b)) ∧ w = w' := by
  by_cases h1 : a ≤ x
  · have hr := hid (inB_ge (b := b) h1)
    go_enter Tryd.func30, Tryd.ntmps30
    go_wp2
    go_ret
    exact ⟨ret_bool hr.out.symm, rfl⟩
  · have hr := hid (inB_lt (b := b) h1)
    have h1' : x < a := by omega
    clear h1
    go_enter Tryd.func30, Tryd.ntmps30
    go_wp2
    go_ret
    exact ⟨ret_bool hr.out.symm, rfl⟩

/-- whether a number is another one -/
def neB (a b : Int) : Bool := a != b
theorem neB_false {a b : Int} : neB a b = false ↔ a = b := by simp [neB]

theorem square_any (M : List (List Int)) : M.any (fun r => neB r.length M.length) = !square M := by
  rw [Bool.eq_iff_iff, Bool.not_eq_true', List.any_eq_true]
  constructor
  · rintro ⟨r, hr, h⟩
    obtain ⟨k, hk, rfl⟩ := mem_iff_row.1 hr
    refine square_not hk fun h' => ?_
    rw [neB_false.2 (by omega)] at h
    cases h
  · intro h
    simp only [square, decide_eq_false_iff_not] at h
    have h' : ∃ r ∈ M, ¬ r.length = M.length := by
      apply Classical.byContradiction
      intro h2
      exact h fun r hr => Classical.byContradiction fun h3 => h2 ⟨r, hr, h3⟩
    obtain ⟨r, hr, h3⟩ := h'
    refine ⟨r, hr, ?_⟩
    cases hb : neB r.length M.length with
    | true => rfl
    | false => have := neB_false.1 hb; omega

end Go.Proofs.YtohjbabjkjcddaaDoor
