/- Texts of sequences, read: the program's and the reference's. -/
import Derived.Test.YtaphnkgjcmneoaaGreatDoorRqi
import Derived.Test.YtaphnkgjcmneoaaGreatDoorPackB
namespace Go.Proofs.YtaphnkgjcmneoaaGreatDoor
open Go.RowKit

theorem ints_no (u : World) (d : Option Addr) (c : Nat) : IsInts u (.slice d 0 c) [] := ⟨d, c, rfl, ⟨Nat.zero_le _, Nat.zero_le _⟩, by simp, fun j hj => by simp at hj⟩
theorem rdO_i64 {L : List UInt8} {v : Int} (h : rdO L = some v) : I64 v := by
  have h1 := Lib.atoiAll_bounds (rdO_some h).1
  unfold I64
  omega
theorem rlL_snoc {W : List (List UInt8)} {t : Nat} {y : List UInt8} (h : W[t]? = some y) : rlL (W.take (t + 1)) = rlL (W.take t) ++ [(rdO y).getD 0] := by
  rw [List.take_add_one, h]; simp [rlL]
theorem rlB_snoc {W : List (List UInt8)} {t : Nat} {y : List UInt8} (h : W[t]? = some y) : rlB (W.take (t + 1)) = (rlB (W.take t) && (rdO y).isSome) := by
  rw [List.take_add_one, h]; simp [rlB]
theorem rlB_no {W : List (List UInt8)} {t : Nat} {y : List UInt8} (h : W[t]? = some y) (hy : rdO y = none) : rlB W = false := by
  cases hb : rlB W with
  | false => rfl
  | true =>
    have h1 := List.all_eq_true.1 hb y (List.mem_of_getElem? h)
    rw [hy] at h1
    cases h1
def rdR (W : List (List UInt8)) : List Int := if rlB W then rlL W else []
theorem rlL_len (W : List (List UInt8)) : (rlL W).length = W.length := by simp [rlL]
theorem prB_none {n : Int} {L : List UInt8} (h : L = noneL) : prB n L = inB n 1 8 ∧ prR n L = [] := by
  rw [prB, prR, if_pos h, if_pos h]; exact ⟨rfl, rfl⟩
theorem prB_not {n : Int} {L : List UInt8} (h : L ≠ noneL) (hr : rlB (spW 32 L) = false) : prB n L = false ∧ prR n L = [] := by
  have h1 : prB n L = false := by rw [prB, if_neg h, hr]; rfl
  exact ⟨h1, by rw [prR, if_neg h, h1]; rfl⟩
theorem prB_sq {n : Int} {L : List UInt8} (h : L ≠ noneL) (hr : rlB (spW 32 L) = true) : prB n L = sqB n (rlL (spW 32 L)) ∧ prR n L = if sqB n (rlL (spW 32 L)) then rlL (spW 32 L) else [] := by
  have h1 : prB n L = sqB n (rlL (spW 32 L)) := by rw [prB, if_neg h, hr]; rfl
  exact ⟨h1, by rw [prR, if_neg h, h1]⟩
theorem sqB_def {n : Int} {X : List Int} : (inB n 1 8 && (decide (X.length ≤ 60) && belowB n X)) = sqB n X := rfl
/-- the text of a sequence: the program's -/
def rqT (n : Int) (X : List Int) : List UInt8 := if sqB n X then rtL X else []
end Go.Proofs.YtaphnkgjcmneoaaGreatDoor
