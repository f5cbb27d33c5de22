/- The laws' own helpers on lists of ints. -/
import Derived.Test.YtohjbabjkjcddaaProg
import Derived.Test.YtohjbabjkjcddaaAppend
namespace Go.Proofs.Ytohjbabjkjcddaa
open Go.RowKit

theorem Try.infoInt : (Try.prog.info? 3).map (fun i => (i.zero, i.size, i.bytes)) = some (some (.int .i64 0), 1, 8) := by kernel_rfl
theorem elemInt : Elem Try.prog 24 3 (.int .i64 0) 1 8 := ⟨Try.underlying24, info_parts Try.infoInt, rfl, by decide⟩

/-- whether two lists are the same -/
def eqL (xs ys : List Int) : Bool := decide (xs = ys)
theorem eqL_iff {xs ys : List Int} : eqL xs ys = true ↔ xs = ys := by simp [eqL]

theorem ret_bool {a b : Bool} (h : a = b) : Ending.returned (.bool a) = .returned (.bool b) := by rw [h]
theorem ret_int {a b : Int} (h : a = b) : Ending.returned (.int .i64 a) = .returned (.int .i64 b) := by rw [h]

theorem toIntS_step {xs : List Int} {k : Nat} (h : k < xs.length) :
    ((xs.take k ++ List.replicate (xs.length - k) 0).map (Value.int .i64)).set k (.int .i64 (nth xs k)) = (xs.take (k + 1) ++ List.replicate (xs.length - (k + 1)) 0).map (Value.int .i64) := by
  rw [take_succ_nth h, ← List.map_set]
  congr 1
  have h1 : xs.length - k = (xs.length - (k + 1)) + 1 := by omega
  have h2 : (xs.take k).length = k := by simp; omega
  rw [h1, List.replicate_succ, List.set_append, if_neg (by omega), h2]
  simp

def iota (k : Int) (n : Nat) : List Int := (List.range n).map fun i : Nat => k + (i : Int)
theorem iota_length (k : Int) (n : Nat) : (iota k n).length = n := by simp [iota]
theorem iota_succ (k : Int) (n : Nat) : iota k (n + 1) = iota k n ++ [k + n] := by simp [iota, List.range_succ]
theorem nth_iota {k : Int} {n j : Nat} (h : j < n) : nth (iota k n) j = k + j := by simp [iota, nth, h]
theorem mark_step {xs : List Int} {k : Int} {i : Nat} (h : i < xs.length) :
    ((iota k i ++ xs.drop i).map (Value.int .i64)).set i (.int .i64 (k + i)) = (iota k (i + 1) ++ xs.drop (i + 1)).map (Value.int .i64) := by
  rw [iota_succ, ← List.map_set]
  congr 1
  have h1 : xs.drop i = xs[i] :: xs.drop (i + 1) := List.drop_eq_getElem_cons h
  rw [h1, List.set_append, if_neg (by rw [iota_length]; omega), iota_length]
  simp only [Nat.sub_self, List.set_cons_zero, List.append_assoc, List.singleton_append]

/-- what heldIntS answers -/
def heldK (xs : List Int) (k : Int) : Int := if xs = iota k xs.length then k + xs.length else -1

end Go.Proofs.Ytohjbabjkjcddaa
