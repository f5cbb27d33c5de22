/- The run of an algorithm on a sequence: its states and its cost. -/
import Derived.Test.YtohjbabjkjcddaaSchedB
namespace Go.Proofs.Ytohjbabjkjcddaa
open Go.RowKit

/-- the state before the k-th request -/
def stAt (N : List (List Int)) (s : Int) (X : List Int) : Nat → Int
  | 0 => s
  | k + 1 => cell N (stAt N s X k).toNat (nth X k).toNat
def statesTo (N : List (List Int)) (s : Int) (X : List Int) (k : Nat) : List Int := (List.range k).map fun i => stAt N s X (i + 1)
def sumA (M S N : List (List Int)) (s : Int) (X : List Int) : Nat → Int
  | 0 => 0
  | k + 1 => sumA M S N s X k + stepC M S (nth X k) (stAt N s X k) (stAt N s X (k + 1))
def algOk (M S N : List (List Int)) (s : Int) (X : List Int) : Bool := startB M S s X && algB M S N
def costA (M S N : List (List Int)) (s : Int) (X : List Int) : Int := if algOk M S N s X = true then sumA M S N s X X.length else 0
def statesA (M S N : List (List Int)) (s : Int) (X : List Int) : List Int := if algOk M S N s X = true then statesTo N s X X.length else []

theorem statesTo_succ (N : List (List Int)) (s : Int) (X : List Int) (k : Nat) : statesTo N s X (k + 1) = statesTo N s X k ++ [stAt N s X (k + 1)] := by simp [statesTo, List.range_succ]
theorem statesTo_length (N : List (List Int)) (s : Int) (X : List Int) (k : Nat) : (statesTo N s X k).length = k := by simp [statesTo]
theorem nth_statesTo {N : List (List Int)} {s : Int} {X : List Int} {k j : Nat} (h : j < k) : nth (statesTo N s X k) j = stAt N s X (j + 1) := by simp [statesTo, nth, h]
theorem atOf_statesTo {N : List (List Int)} {s : Int} {X : List Int} {k : Nat} : ∀ {j : Nat}, j ≤ k → atOf s (statesTo N s X k) j = stAt N s X j
  | 0, _ => rfl
  | j + 1, h => nth_statesTo (by omega)
theorem sumTo_statesTo {M S N : List (List Int)} {s : Int} {X : List Int} {k : Nat} : ∀ {j : Nat}, j ≤ k → sumTo M S s X (statesTo N s X k) j = sumA M S N s X j
  | 0, _ => rfl
  | j + 1, h => by rw [sumTo, sumA, sumTo_statesTo (j := j) (by omega), atOf_statesTo (j := j) (by omega), nth_statesTo (by omega)]
theorem algB_len {M S N : List (List Int)} (h : algB M S N = true) : N.length = M.length := by
  simp only [algB, Bool.and_eq_true, decide_eq_true_eq] at h; exact h.1
theorem algB_row {M S N : List (List Int)} (h : algB M S N = true) {k : Nat} (hk : k < M.length) : (row N k).length = S.length := by
  have hl := algB_len h
  simp only [algB, Bool.and_eq_true, decide_eq_true_eq] at h
  have := h.2 _ (row_mem (xss := N) (k := k) (by omega))
  simp only [rowOk, Bool.and_eq_true, decide_eq_true_eq] at this
  exact this.1
theorem algB_at {M S N : List (List Int)} (h : algB M S N = true) {k r : Nat} (hk : k < M.length) (hr : r < S.length) : stOk M S r (cell N k r) = true := by
  have hl := algB_len h
  have hrow := algB_row h hk
  simp only [algB, Bool.and_eq_true, decide_eq_true_eq] at h
  have := h.2 _ (row_mem (xss := N) (k := k) (by omega))
  simp only [rowOk, Bool.and_eq_true, decide_eq_true_eq] at this
  exact this.2 r (by omega)
theorem stAt_in {M S N : List (List Int)} {s : Int} {X : List Int} (h : startB M S s X = true) (ha : algB M S N = true) : ∀ {k : Nat}, k ≤ X.length → 0 ≤ stAt N s X k ∧ stAt N s X k < M.length
  | 0, _ => startB_state h
  | k + 1, hk => by
    have ih := stAt_in h ha (k := k) (by omega)
    have hr := startB_req h (k := k) (by omega)
    have := stOk_in (algB_at ha (k := (stAt N s X k).toNat) (r := (nth X k).toNat) (by omega) (by omega))
    exact ⟨this.1, this.2.1⟩
theorem okTo_statesTo {M S N : List (List Int)} {s : Int} {X : List Int} (h : startB M S s X = true) (ha : algB M S N = true) {k : Nat} (hk : k ≤ X.length) : okTo M S X (statesTo N s X X.length) k := by
  intro i hi
  have h1 := stAt_in h ha (k := i) (by omega)
  have h2 := startB_req h (k := i) (by omega)
  rw [nth_statesTo (by omega)]
  exact algB_at ha (by omega) (by omega)
theorem sumA_le {M S N : List (List Int)} {s : Int} {X : List Int} (h : startB M S s X = true) (ha : algB M S N = true) {k : Nat} (hk : k ≤ X.length) : -(k : Int) ≤ sumA M S N s X k ∧ sumA M S N s X k ≤ 119 * k := by
  have := sumTo_le h (states := statesTo N s X X.length) (statesTo_length _ _ _ _) k (by rw [statesTo_length]; exact hk) (okTo_statesTo h ha hk)
  rwa [sumTo_statesTo hk] at this
theorem statesTo_i64 {M S N : List (List Int)} {s : Int} {X : List Int} (h : startB M S s X = true) (ha : algB M S N = true) {k : Nat} (hk : k ≤ X.length) (hM : M.length ≤ 17592186044415) : ∀ x ∈ statesTo N s X k, I64 x := by
  intro x hx
  obtain ⟨i, hi, rfl⟩ := List.mem_map.1 hx
  have hi' := List.mem_range.1 hi
  have := stAt_in h ha (k := i + 1) (by omega)
  unfold I64
  omega
theorem algOk_start {M S N : List (List Int)} {s : Int} {X : List Int} (h : startB M S s X = false) : algOk M S N s X = false := by simp [algOk, h]
theorem algOk_alg {M S N : List (List Int)} {s : Int} {X : List Int} (h : algB M S N = false) : algOk M S N s X = false := by simp [algOk, h]
theorem algOk_true {M S N : List (List Int)} {s : Int} {X : List Int} (h : startB M S s X = true) (ha : algB M S N = true) : algOk M S N s X = true := by simp [algOk, h, ha]
theorem costA_false {M S N : List (List Int)} {s : Int} {X : List Int} (h : algOk M S N s X = false) : costA M S N s X = 0 := by simp [costA, h]
theorem costA_true {M S N : List (List Int)} {s : Int} {X : List Int} (h : algOk M S N s X = true) : costA M S N s X = sumA M S N s X X.length := by simp [costA, h]
theorem statesA_false {M S N : List (List Int)} {s : Int} {X : List Int} (h : algOk M S N s X = false) : statesA M S N s X = [] := by simp [statesA, h]
theorem statesA_true {M S N : List (List Int)} {s : Int} {X : List Int} (h : algOk M S N s X = true) : statesA M S N s X = statesTo N s X X.length := by simp [statesA, h]
theorem statesA_len {M S N : List (List Int)} {s : Int} {X : List Int} : (statesA M S N s X).length ≤ 4000000 := by
  unfold statesA
  split
  · rename_i h
    rw [statesTo_length]
    simp only [algOk, Bool.and_eq_true] at h
    have := startB_len h.1
    omega
  · simp

end Go.Proofs.Ytohjbabjkjcddaa
