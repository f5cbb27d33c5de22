/- Texts of sequences, written and read: the reference's. -/
import Derived.Test.YtaphnkgjcmneoaaGreatDoorRqj
import Derived.Test.YtaphnkgjcmneoaaGreatDoorCkj
namespace Go.Proofs.YtaphnkgjcmneoaaGreatDoor
open Go.RowKit

theorem spL_snoc {X : List Int} {i : Nat} (h0 : 0 < i) (h : i < X.length) : spL (X.take (i + 1)) = spL (X.take i) ++ [32] ++ Lib.itoa (nth X i) := by
  unfold spL
  rw [take_succ_nth h, List.map_append, List.map_cons, List.map_nil, join_snoc, if_neg]
  intro e
  have h2 := congrArg List.length e
  rw [List.length_map, List.length_take, List.length_nil] at h2
  omega
theorem spL_len {X : List Int} {i : Nat} (hi : i ≤ 1000) (hb : ∀ x ∈ X, -1000000000000000 ≤ x ∧ x ≤ 1000000000000000) : (spL (X.take i)).length ≤ 22000 := by
  unfold spL
  have h := join_len (sep := [32]) (c := 21) (r := (X.take i).map Lib.itoa) fun y hy => by
    obtain ⟨x, hx, rfl⟩ := List.mem_map.1 hy
    exact itoa_len (hb x (List.mem_of_mem_take hx))
  rw [List.length_map, List.length_take, List.length_singleton] at h
  have : min i X.length * (21 + 1) ≤ 1000 * 22 := Nat.mul_le_mul (by omega) (by omega)
  omega
theorem prR_no {n : Int} {L : List UInt8} (h : prB n L = false) : prR n L = [] := by
  unfold prR
  split
  · rfl
  · rw [h]; rfl
theorem rsL_snoc {W : List (List UInt8)} {t : Nat} {y : List UInt8} (h : W[t]? = some y) : rsL (W.take (t + 1)) = rsL (W.take t) ++ [(rsO y).getD 0] := by
  rw [List.take_add_one, h]; simp [rsL]
theorem rsL_len (W : List (List UInt8)) : (rsL W).length = W.length := by simp [rsL]
theorem pr_word {n : Int} {L y : List UInt8} (hL : L ≠ noneL) (hy : y ∈ spW 32 L) (h : wdOk n y = false) : prB n L = false := by
  cases hp : prB n L with
  | false => rfl
  | true =>
    have h1 := ((pr_true hL).1 hp).2.1 y hy
    rw [h] at h1
    cases h1
theorem Ext.allocd (w : World) (o : Obj) : Ext w (w.alloc o) := inferInstance
end Go.Proofs.YtaphnkgjcmneoaaGreatDoor
