/- The reference's table of the fewest faults while it is being built, in plain Lean. -/
import Derived.Test.YtmabejallkjjmaaPagP
namespace Go.Proofs.Ytmabejallkjjmaa
open Go.RowKit

def fwPart (k n : Nat) (X : List Int) (i s : Nat) : List Int := (List.range s).map fun S => fewT k n X (X.length - i) S
def fwTab (k n : Nat) (X : List Int) (i s : Nat) : List (List Int) := (List.range (X.length + 1)).map fun j => if j < i then [] else if j = i then fwPart k n X i s else fwPart k n X j (2 ^ n)
theorem fwPart_length (k n : Nat) (X : List Int) (i s : Nat) : (fwPart k n X i s).length = s := by simp [fwPart]
theorem fwTab_length (k n : Nat) (X : List Int) (i s : Nat) : (fwTab k n X i s).length = X.length + 1 := by simp [fwTab]
theorem row_fwTab {k n : Nat} {X : List Int} {i s j : Nat} (hj : j < X.length + 1) : row (fwTab k n X i s) j = if j < i then [] else if j = i then fwPart k n X i s else fwPart k n X j (2 ^ n) := by
  simp [row, fwTab, hj]
theorem fwPart_succ (k n : Nat) (X : List Int) (i s : Nat) : fwPart k n X i (s + 1) = fwPart k n X i s ++ [fewT k n X (X.length - i) s] := by
  simp [fwPart, List.range_succ]
theorem nth_fwPart {k n : Nat} {X : List Int} {i s S : Nat} (h : S < s) : nth (fwPart k n X i s) S = fewT k n X (X.length - i) S := by
  simp [nth, fwPart, h]
theorem fwTab_set {k n : Nat} {X : List Int} {i s : Nat} (hi : i < X.length + 1) : (fwTab k n X i s).set i (fwPart k n X i (s + 1)) = fwTab k n X i (s + 1) := by
  refine eq_of_row (by simp [fwTab_length]) fun j hj => ?_
  rw [List.length_set, fwTab_length] at hj
  rw [row_fwTab hj]
  by_cases h : j = i
  · subst h
    simp [row, fwTab_length, hj]
  · have : row ((fwTab k n X i s).set i (fwPart k n X i (s + 1))) j = row (fwTab k n X i s) j := by
      simp [row, List.getD_eq_getElem?_getD, List.getElem?_set_ne (Ne.symm h)]
    rw [this, row_fwTab hj, if_neg h, if_neg h]
theorem fwTab_down {k n : Nat} {X : List Int} {i : Nat} : fwTab k n X (i + 1) (2 ^ n) = fwTab k n X i 0 := by
  refine eq_of_row (by simp [fwTab_length]) fun j hj => ?_
  rw [fwTab_length] at hj
  rw [row_fwTab hj, row_fwTab hj]
  by_cases h1 : j < i
  · rw [if_pos (by omega), if_pos h1]
  · rw [if_neg h1]
    by_cases h2 : j = i
    · rw [if_pos (by omega), if_pos h2]; rfl
    · rw [if_neg (by omega), if_neg h2]
      by_cases h3 : j = i + 1
      · rw [if_pos h3, h3]
      · rw [if_neg h3]
theorem fwTab_last {k n : Nat} {X : List Int} : (List.replicate (X.length + 1) ([] : List Int)).set X.length (List.replicate (2 ^ n) 0) = fwTab k n X X.length (2 ^ n) := by
  refine eq_of_row (by simp [fwTab_length]) fun j hj => ?_
  rw [List.length_set, List.length_replicate] at hj
  rw [row_fwTab hj]
  by_cases h : j = X.length
  · subst h
    rw [if_neg (by omega), if_pos rfl]
    have e : fwPart k n X X.length (2 ^ n) = List.replicate (2 ^ n) 0 := by
      refine eq_of_nth (by simp [fwPart_length]) fun S hS => ?_
      rw [fwPart_length] at hS
      rw [nth_fwPart hS, Nat.sub_self]
      simp [fewT, nth, hS]
    rw [e]
    simp [row]
  · have : row ((List.replicate (X.length + 1) ([] : List Int)).set X.length (List.replicate (2 ^ n) 0)) j = [] := by
      unfold row
      rw [List.getD_eq_getElem?_getD, List.getElem?_set_ne (Ne.symm h), List.getElem?_replicate, if_pos hj]
      rfl
    rw [this, if_pos (by omega)]
/-- the best of the first j choices -/
def bestJ (k n : Nat) (X : List Int) (d S p j : Nat) : Int := (((choS k n S p).take j).map fun x => fewT k n X d (aftS S x p) + if S.testBit p then 0 else 1).foldl fewStep (-1)
theorem bestJ_succ {k n : Nat} {X : List Int} {d S p j : Nat} (h : j < (choS k n S p).length) :
    bestJ k n X d S p (j + 1) = fewStep (bestJ k n X d S p j) (fewT k n X d (aftS S (nth (choS k n S p) j) p) + if S.testBit p then 0 else 1) := by
  unfold bestJ
  rw [take_succ_nth h, List.map_append, List.foldl_append]
  rfl
theorem bestJ_end {k n : Nat} {X : List Int} {d S : Nat} (hk : szS S ≤ k) :
    bestJ k n X d S (nth X (X.length - (d + 1))).toNat (choS k n S (nth X (X.length - (d + 1))).toNat).length = fewT k n X (d + 1) S := by
  unfold bestJ
  rw [List.take_length, fewT]
  simp only [if_pos hk]
theorem few_big {k n : Nat} {X : List Int} {d S : Nat} (hk : ¬ szS S ≤ k) : fewT k n X (d + 1) S = -1 := by
  rw [fewT]
  simp only [if_neg hk]
theorem few_in {k n : Nat} {X : List Int} (hn : n ≤ 8) (h0 : 0 < k) (hX : pagesB n X) {d S : Nat} (hd : d ≤ X.length) (hS : S < 2 ^ n) : -1 ≤ fewT k n X d S ∧ fewT k n X d S ≤ d := by
  by_cases hk : szS S ≤ k
  · have := few_lst hn h0 hX hd hS hk
    omega
  · cases d with
    | zero => simp [fewT]
    | succ d => rw [few_big hk]; omega
/-- what stands in a list of choices -/
theorem mem_choS {k n S p : Nat} {x : Int} (h : x ∈ choS k n S p) : x = -1 ∨ ∃ q : Nat, x = q ∧ q < n ∧ S.testBit q = true := by
  unfold choS at h
  split at h
  · simp at h; exact .inl h
  · rcases mem_choF h with ⟨h, _⟩ | h
    · exact .inl h
    · exact .inr h
theorem bestJ_in {k n : Nat} {X : List Int} (hn : n ≤ 8) (h0 : 0 < k) (hX : pagesB n X) {d S p : Nat} (hd : d ≤ X.length) (hS : S < 2 ^ n) (hp : p < n) : ∀ {j : Nat}, j ≤ (choS k n S p).length → -1 ≤ bestJ k n X d S p j ∧ bestJ k n X d S p j ≤ d + 1
  | 0, _ => by simp [bestJ]; omega
  | j + 1, hj => by
    have ih := bestJ_in hn h0 hX hd hS hp (j := j) (by omega)
    rw [bestJ_succ (by omega)]
    have hf := few_in (k := k) hn h0 hX hd (aft_lt (x := nth (choS k n S p) j) hS hp)
    unfold fewStep
    cases S.testBit p
    · simp only [Bool.false_eq_true, if_false]
      split <;> omega
    · simp only [if_true]
      split <;> omega
theorem choS_length {k n S p : Nat} (hn : n ≤ 8) : (choS k n S p).length ≤ 9 := by
  have : (pgS n S).length ≤ n := by
    unfold pgS
    rw [List.length_map]
    exact Nat.le_trans (List.length_filter_le _ _) (by simp)
  unfold choS choF
  split
  · simp
  · rw [List.length_append]
    split <;> simp <;> omega
/-- the choices among the first x pages -/
def choX (k S x : Nat) : List Int := (if szS S < k then [-1] else []) ++ pgS x S
theorem pgS_succ (x S : Nat) : pgS (x + 1) S = if S.testBit x then pgS x S ++ [(x : Int)] else pgS x S := by
  unfold pgS
  rw [List.range_succ, List.filter_append]
  cases h : S.testBit x <;> simp [h]
theorem choX_succ_in {k S x : Nat} (h : S.testBit x = true) : choX k S (x + 1) = choX k S x ++ [(x : Int)] := by
  unfold choX
  rw [pgS_succ, if_pos h, List.append_assoc]
theorem choX_succ_out {k S x : Nat} (h : S.testBit x = false) : choX k S (x + 1) = choX k S x := by
  unfold choX
  have : pgS (x + 1) S = pgS x S := by rw [pgS_succ, h]; rfl
  rw [this]
theorem choX_length {k S x : Nat} : (choX k S x).length ≤ x + 1 := by
  have : (pgS x S).length ≤ x := by
    unfold pgS
    rw [List.length_map]
    exact Nat.le_trans (List.length_filter_le _ _) (by simp)
  unfold choX
  rw [List.length_append]
  split <;> simp <;> omega
theorem choX_end (k n S : Nat) : choX k S n = choF k n S := rfl
end Go.Proofs.Ytmabejallkjjmaa
