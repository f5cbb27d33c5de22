/- The text of a metric: the reference's. -/
import Derived.Test.YtohjbabjkjcddaaDoorTxa
namespace Go.Proofs.YtohjbabjkjcddaaDoor
open Go.RowKit

/-- what stands ahead of the next part -/
def pre (xs : List (List UInt8)) (sep : List UInt8) : List UInt8 := if xs = [] then [] else Lib.join xs sep ++ sep
theorem join_pre (xs : List (List UInt8)) (y sep : List UInt8) : Lib.join (xs ++ [y]) sep = pre xs sep ++ y := by
  rw [join_snoc, pre]
  split <;> simp
theorem pre_pos {α : Type} {xs : List α} {f : α → List UInt8} {t : Nat} {sep : List UInt8} (h : 0 < t) (hl : t ≤ xs.length) : pre ((xs.take t).map f) sep = Lib.join ((xs.take t).map f) sep ++ sep := by
  rw [pre, if_neg]
  intro e
  have := congrArg List.length e
  rw [List.length_map, List.length_take, List.length_nil] at this
  omega
theorem pre_zero {α : Type} {xs : List α} {f : α → List UInt8} {t : Nat} {sep : List UInt8} (h : ¬ 0 < t) : pre ((xs.take t).map f) sep = [] ∧ Lib.join ((xs.take t).map f) sep = [] := by
  have : t = 0 := by omega
  subst this
  exact ⟨by simp [pre], by simp [Lib.join_nil]⟩
theorem join_num {X : List Int} {f : Int → List UInt8} {j : Nat} (hj : j < X.length) (sep : List UInt8) : Lib.join ((X.take (j + 1)).map f) sep = pre ((X.take j).map f) sep ++ f (nth X j) := by
  rw [take_succ_nth hj, List.map_append]
  exact join_pre _ _ _
theorem join_row {M : List (List Int)} {f : List Int → List UInt8} {t : Nat} (ht : t < M.length) (sep : List UInt8) : Lib.join ((M.take (t + 1)).map f) sep = pre ((M.take t).map f) sep ++ f (row M t) := by
  rw [take_succ_row ht, List.map_append]
  exact join_pre _ _ _
theorem join_bd {α : Type} {xs : List α} {f : α → List UInt8} {t c k : Nat} {sep : List UInt8} (h : ∀ x ∈ xs, (f x).length ≤ c) (hk : xs.length ≤ k) : (Lib.join ((xs.take t).map f) sep).length ≤ k * (c + sep.length) := by
  have h1 := join_len (sep := sep) (c := c) (r := (xs.take t).map f) fun y hy => by
    obtain ⟨x, hx, rfl⟩ := List.mem_map.1 hy
    exact h x (List.mem_of_mem_take hx)
  rw [List.length_map, List.length_take] at h1
  exact Nat.le_trans h1 (Nat.mul_le_mul_right _ (by omega))

end Go.Proofs.YtohjbabjkjcddaaDoor
