/- The library's functions on slices of ints: Clone, Min, Repeat; the reference's least. -/
import Derived.Test.YtohjbabjkjcddaaDoorReads
import Derived.Test.YtohjbabjkjcddaaDoorMin
import Derived.Laws.CopyOwn
namespace Go.Proofs.YtohjbabjkjcddaaDoor
open Go.RowKit

theorem nilRow (w : World) (B e : Nat) : Own w B [intRowOf e (.slice none ([] : List Int).length 0) []] := (Own.nil w B).cons_nil _ _

theorem eqlNilInts (c : Nat) (w : World) : (binOp .eql 54 (.slice none 0 c) (.slice none 0 0)).run Tryd.prog w = .ok (.bool true) w := by kernel_rfl
theorem eqlSomeInts (ad : Addr) (n c : Nat) (w : World) : (binOp .eql 54 (.slice (some ad) n c) (.slice none 0 0)).run Tryd.prog w = .ok (.bool false) w := by kernel_rfl

/-- the least of the first numbers -/
def leastTo (w : List Int) (k : Nat) : Int := ((w.drop 1).take k).foldl (minB id) (nth w 0)
theorem leastTo_succ {w : List Int} {k : Nat} (h : k + 1 < w.length) : leastTo w (k + 1) = minB id (leastTo w k) (nth w (k + 1)) := by
  rw [leastTo, foldTake _ _ (by rw [List.length_drop]; omega)]
  have : nth (w.drop 1) k = nth w (k + 1) := by simp [nth]
  rw [this]; rfl
theorem leastTo_all {w : List Int} {k : Nat} (h : k + 1 = w.length) : leastTo w k = leastL w := by
  rw [leastTo, List.take_of_length_le (by rw [List.length_drop]; omega)]; rfl
theorem leastTo_mem {w : List Int} (h : 0 < w.length) : ∀ k, k < w.length → leastTo w k ∈ w
  | 0, _ => nth_mem h
  | k + 1, hk => by
    rw [leastTo_succ hk]
    unfold minB
    split
    · exact nth_mem hk
    · exact leastTo_mem h k (by omega)

end Go.Proofs.YtohjbabjkjcddaaDoor
