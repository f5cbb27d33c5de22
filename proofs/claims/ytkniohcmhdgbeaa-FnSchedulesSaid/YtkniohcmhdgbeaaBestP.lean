/- The table of the program's BestSchedule, as lists. -/
import Derived.Test.YtkniohcmhdgbeaaArg
import Derived.Test.YtkniohcmhdgbeaaWorkX
import Derived.Test.YtkniohcmhdgbeaaOffsP
namespace Go.Proofs.Ytkniohcmhdgbeaa
open Go.RowKit

/-- a cell of a row of the table when k served states are done -/
def lfAt (M S : List (List Int)) (r : Int) (rest L : List Int) (k y : Nat) : Int := (L.take k).foldl (minB (bestC M S y r rest)) 1073741824
def lfRow (M S : List (List Int)) (r : Int) (rest L : List Int) (f t : Nat) : List Int := (List.range M.length).map fun y => lfAt M S r rest L (if y < f then L.length else if y = f then t else 0) y
def lfFull (M S : List (List Int)) (rest : List Int) : List Int := (List.range M.length).map fun y => optL M S (row M y) rest
theorem lfRow_length (M S : List (List Int)) (r : Int) (rest L : List Int) (f t : Nat) : (lfRow M S r rest L f t).length = M.length := by simp [lfRow]
theorem lfFull_length (M S : List (List Int)) (rest : List Int) : (lfFull M S rest).length = M.length := by simp [lfFull]
theorem nth_lfRow {M S : List (List Int)} {r : Int} {rest L : List Int} {f t y : Nat} (h : y < M.length) : nth (lfRow M S r rest L f t) y = lfAt M S r rest L (if y < f then L.length else if y = f then t else 0) y := by simp [lfRow, nth, h]
theorem nth_lfFull {M S : List (List Int)} {rest : List Int} {y : Nat} (h : y < M.length) : nth (lfFull M S rest) y = optL M S (row M y) rest := by simp [lfFull, nth, h]
theorem lfRow_zero (M S : List (List Int)) (r : Int) (rest L : List Int) : lfRow M S r rest L 0 0 = List.replicate M.length 1073741824 := by
  refine eq_of_nth (by rw [lfRow_length, List.length_replicate]) fun y hy => ?_
  rw [lfRow_length] at hy
  rw [nth_lfRow hy, if_neg (by omega)]
  have : (if y = 0 then 0 else 0) = 0 := by split <;> rfl
  rw [this]
  simp [lfAt, nth, hy]
theorem lfRow_full (M S : List (List Int)) (r : Int) (rest L : List Int) (f : Nat) : lfRow M S r rest L f L.length = lfRow M S r rest L (f + 1) 0 := by
  refine eq_of_nth (by rw [lfRow_length, lfRow_length]) fun y hy => ?_
  rw [lfRow_length] at hy
  rw [nth_lfRow hy, nth_lfRow hy]
  congr 1
  by_cases h1 : y < f
  · rw [if_pos h1, if_pos (by omega)]
  · rw [if_neg h1]
    by_cases h2 : y = f
    · rw [if_pos h2, if_pos (by omega)]
    · rw [if_neg h2, if_neg (by omega)]
      split <;> rfl
theorem lfRow_set {M S : List (List Int)} {r : Int} {rest L : List Int} {f t : Nat} (hf : f < M.length) :
    ((lfRow M S r rest L f t).map (Value.int .i64)).set f (.int .i64 (lfAt M S r rest L (t + 1) f)) = (lfRow M S r rest L f (t + 1)).map (Value.int .i64) := by
  rw [← List.map_set]
  congr 1
  refine eq_of_nth (by rw [List.length_set, lfRow_length, lfRow_length]) fun y hy => ?_
  rw [List.length_set, lfRow_length] at hy
  rw [nth_lfRow hy]
  by_cases h : y = f
  · subst h
    rw [if_neg (by omega), if_pos rfl]
    simp [nth, lfRow_length, hy]
  · have e : nth ((lfRow M S r rest L f t).set f (lfAt M S r rest L (t + 1) f)) y = nth (lfRow M S r rest L f t) y := by
      simp [nth, Ne.symm h]
    rw [e, nth_lfRow hy, if_neg h, if_neg h]
theorem lfAt_succ {M S : List (List Int)} {r : Int} {rest L : List Int} {k y : Nat} (hk : k < L.length) : lfAt M S r rest L (k + 1) y = minB (bestC M S y r rest) (lfAt M S r rest L k y) (nth L k) := foldTake _ _ hk
theorem lfRow_all {M S : List (List Int)} {s : Int} {X : List Int} (h : startB M S s X = true) {k : Nat} (hk : k < X.length) :
    lfRow M S (nth X k) (X.drop (k + 1)) (servedL (row S (nth X k).toNat)) M.length 0 = lfFull M S (X.drop k) := by
  refine eq_of_nth (by rw [lfRow_length, lfFull_length]) fun y hy => ?_
  rw [lfRow_length] at hy
  rw [nth_lfRow hy, nth_lfFull hy, if_pos hy, lfAt, List.take_length]
  exact left_eq h hk hy
theorem lfFull_nil {M S : List (List Int)} (hp : probB M S = true) : lfFull M S [] = List.replicate M.length 0 := by
  refine eq_of_nth (by rw [lfFull_length, List.length_replicate]) fun y hy => ?_
  rw [lfFull_length] at hy
  rw [nth_lfFull hy, optL_nil hp hy]
  simp [nth, hy]

theorem startB_drop {M S : List (List Int)} {s : Int} {X : List Int} (h : startB M S s X = true) {y : Nat} (hy : y < M.length) (k : Nat) : startB M S (y : Int) (X.drop k) = true := by
  have hp := startB_prob h
  have hl := startB_len h
  simp only [startB, seqB, Bool.and_eq_true, decide_eq_true_eq]
  refine ⟨⟨hp, inB_true.2 (by omega)⟩, by rw [List.length_drop]; omega, belowB_of fun j hj => inB_true.2 ?_⟩
  have := mem_drop_in h k _ (nth_mem hj)
  omega
theorem opt_in {M S : List (List Int)} {s : Int} {X : List Int} (h : startB M S s X = true) {y : Nat} (hy : y < M.length) (k : Nat) : 0 ≤ optL M S (row M y) (X.drop k) ∧ optL M S (row M y) (X.drop k) ≤ 10000 := by
  have h1 := start_workL (startB_drop h hy k)
  rw [Int.toNat_natCast] at h1
  obtain ⟨⟨c, hc, e⟩, _⟩ := leastL_min (len_ne (startB_prob h) h1.1)
  obtain ⟨j, hj, rfl⟩ := mem_iff_nth.1 hc
  have h3 := h1.2 j (by rw [← h1.1]; exact hj)
  have e' : optL M S (row M y) (X.drop k) = nth (workL M S (row M y) (X.drop k)) j := e
  omega
theorem lfFull_i64 {M S : List (List Int)} {s : Int} {X : List Int} (h : startB M S s X = true) (k : Nat) : ∀ x ∈ lfFull M S (X.drop k), I64 x := by
  intro x hx
  obtain ⟨j, hj, rfl⟩ := mem_iff_nth.1 hx
  rw [lfFull_length] at hj
  rw [nth_lfFull hj]
  have := opt_in h hj k
  unfold I64
  omega
/-- the bounds of a cost -/
theorem bestC_in {M S : List (List Int)} {s : Int} {X : List Int} (h : startB M S s X = true) {k y : Nat} (hk : k < X.length) (hy : y < M.length) {t : Int} (ht : t ∈ servedL (row S (nth X k).toNat)) :
    0 ≤ bestC M S y (nth X k) (X.drop (k + 1)) t ∧ bestC M S y (nth X k) (X.drop (k + 1)) t ≤ 20000 := by
  have hp := startB_prob h
  have hr := startB_req h hk
  have ht' := servedL_lt ht
  rw [(probB_row hp (by omega)).1] at ht'
  have b1 := probB_move hp hy ht'.2.1
  have b2 := probB_serve hp (k := (nth X k).toNat) (by omega) ht'.2.1
  have b3 := opt_in h ht'.2.1 (k + 1)
  have b4 : 0 ≤ cell S (nth X k).toNat t.toNat := ht'.2.2
  unfold bestC stepC
  rw [Int.toNat_natCast]
  omega
theorem lfAt_in {M S : List (List Int)} {s : Int} {X : List Int} (h : startB M S s X = true) {k y : Nat} (hk : k < X.length) (hy : y < M.length) (j : Nat) :
    0 ≤ lfAt M S (nth X k) (X.drop (k + 1)) (servedL (row S (nth X k).toNat)) j y ∧ lfAt M S (nth X k) (X.drop (k + 1)) (servedL (row S (nth X k).toNat)) j y ≤ 1073741824 := by
  obtain ⟨h1, _, h3⟩ := foldB_le (f := bestC M S y (nth X k) (X.drop (k + 1))) ((servedL (row S (nth X k).toNat)).take j) 1073741824
  refine ⟨?_, h1⟩
  rcases h3 with h3 | ⟨t, ht, h3⟩
  · unfold lfAt; omega
  · have := bestC_in h hk hy (List.mem_of_mem_take ht)
    unfold lfAt; omega

/-- the table when the rows from i on are laid -/
def lfTab (M S : List (List Int)) (X : List Int) (i : Nat) : List (List Int) := (List.range (X.length + 1)).map fun j => if j < i then [] else lfFull M S (X.drop j)
theorem lfTab_length (M S : List (List Int)) (X : List Int) (i : Nat) : (lfTab M S X i).length = X.length + 1 := by simp [lfTab]
theorem row_lfTab {M S : List (List Int)} {X : List Int} {i j : Nat} (h : j < X.length + 1) : row (lfTab M S X i) j = if j < i then [] else lfFull M S (X.drop j) := by simp [lfTab, row, h]
theorem lfTab_set {M S : List (List Int)} {X : List Int} {i : Nat} (hi : i < X.length + 1) : (lfTab M S X (i + 1)).set i (lfFull M S (X.drop i)) = lfTab M S X i := by
  refine eq_of_row (by rw [List.length_set, lfTab_length, lfTab_length]) fun j hj => ?_
  rw [List.length_set, lfTab_length] at hj
  rw [row_lfTab hj]
  by_cases h : j = i
  · subst h
    rw [if_neg (by omega)]
    simp [row, lfTab_length, hj]
  · have e : row ((lfTab M S X (i + 1)).set i (lfFull M S (X.drop i))) j = row (lfTab M S X (i + 1)) j := by
      simp [row, Ne.symm h]
    rw [e, row_lfTab hj]
    by_cases h2 : j < i
    · rw [if_pos h2, if_pos (by omega)]
    · rw [if_neg h2, if_neg (by omega)]

/-- the first place whose cost is the table's is the best one -/
theorem best_place {M S : List (List Int)} {s : Int} {X : List Int} (h : startB M S s X = true) {k : Nat} (hk : k < X.length) {y : Nat} (hy : y < M.length) :
    ∃ i, i < (servedL (row S (nth X k).toNat)).length ∧ bestAt M S y (nth X k) (X.drop (k + 1)) = nth (servedL (row S (nth X k).toNat)) i ∧
      bestC M S y (nth X k) (X.drop (k + 1)) (nth (servedL (row S (nth X k).toNat)) i) = optL M S (row M y) (X.drop k) ∧
      ∀ q, q < i → bestC M S y (nth X k) (X.drop (k + 1)) (nth (servedL (row S (nth X k).toNat)) q) ≠ optL M S (row M y) (X.drop k) := by
  have hp := startB_prob h
  have hr := startB_req h hk
  have hne := servedL_ne (probB_row hp (k := (nth X k).toNat) (by omega)).2.2
  obtain ⟨i, hi, e1, h1, h2⟩ := arg_all (c := bestC M S y (nth X k) (X.drop (k + 1))) (fun s hs => (servedL_lt hs).1) hne
  have h3 := left_eq h hk hy
  have h4 : IsMin ((servedL (row S (nth X k).toNat)).foldl (minB (bestC M S y (nth X k) (X.drop (k + 1)))) 1073741824) (servedL (row S (nth X k).toNat)) (bestC M S y (nth X k) (X.drop (k + 1))) :=
    foldB_min hne fun t ht => by have := bestC_in h hk hy ht; omega
  rw [h3] at h4
  obtain ⟨⟨t, ht, e2⟩, h5⟩ := h4
  obtain ⟨j, hj, rfl⟩ := mem_iff_nth.1 ht
  have h6 := h2 j hj
  have h7 := h5 _ (nth_mem hi)
  refine ⟨i, hi, e1, by omega, fun q hq => ?_⟩
  have := h1 q hq
  omega

end Go.Proofs.Ytkniohcmhdgbeaa
