/- The best matching of two configurations and its cost: the reference's. -/
import Derived.Test.YtaphnkgjcmneoaaGreatDoorMat
import Derived.Test.YtaphnkgjcmneoaaGreatDoorOrdS
namespace Go.Proofs.YtaphnkgjcmneoaaGreatDoor
open Go.RowKit

theorem ints_none (u : World) (d : Option Addr) (c : Nat) : IsInts u (.slice d 0 c) [] := ⟨d, c, rfl, ⟨Nat.zero_le _, Nat.zero_le _⟩, by simp, fun j hj => by simp at hj⟩
def lstM (F : List Int → Int) (P : List (List Int)) (j : Nat) : Int := if j = 0 then -1 else (bestTo F P 1073741824 j).2
theorem lstM_or (F : List Int → Int) (P : List (List Int)) (j : Nat) : (j = 0 ∧ lstM F P j = -1) ∨ (0 < j ∧ lstM F P j = (bestTo F P 1073741824 j).2) := by
  unfold lstM
  by_cases h : j = 0
  · exact .inl ⟨h, if_pos h⟩
  · exact .inr ⟨by omega, if_neg h⟩
theorem lstM_succ (F : List Int → Int) (P : List (List Int)) (j : Nat) : lstM F P (j + 1) = (bestTo F P 1073741824 (j + 1)).2 := if_neg (by omega)

end Go.Proofs.YtaphnkgjcmneoaaGreatDoor
