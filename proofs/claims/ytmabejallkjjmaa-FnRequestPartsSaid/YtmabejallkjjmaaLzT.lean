/- The lazy plan: the reference's. -/
import Derived.Test.YtmabejallkjjmaaLzS
import Derived.Test.YtmabejallkjjmaaUse
import Derived.Test.YtmabejallkjjmaaGrC
namespace Go.Proofs.Ytmabejallkjjmaa
open Go.RowKit

theorem filter_first {N T : List Int} : ∀ {j : Nat}, j < N.length → (∀ l, l < j → nth N l ∈ T) → nth N j ∉ T → nth (N.filter fun y => !hasB T y) 0 = nth N j := by
  induction N with
  | nil => intro j hj; simp at hj
  | cons y N ih =>
    intro j hj h1 h2
    cases j with
    | zero =>
      have hy : y ∉ T := by simpa [nth] using h2
      rw [List.filter_cons, if_pos (by simp [hasB, hy])]
      simp [nth]
    | succ j =>
      have hy : y ∈ T := by simpa [nth] using h1 0 (by omega)
      rw [List.filter_cons, if_neg (by simp [hasB, hy])]
      have := ih (j := j) (by simpa using hj) (fun l hl => by simpa [nth] using h1 (l + 1) (by omega)) (by simpa [nth] using h2)
      rw [this]
      simp [nth]

theorem ints_nil (w : World) (d : Option Addr) (c : Nat) : IsInts w (.slice d 0 c) [] := ⟨d, c, rfl, ⟨Nat.zero_le _, Nat.zero_le _⟩, by simp, fun j hj => by simp at hj⟩
end Go.Proofs.Ytmabejallkjjmaa
