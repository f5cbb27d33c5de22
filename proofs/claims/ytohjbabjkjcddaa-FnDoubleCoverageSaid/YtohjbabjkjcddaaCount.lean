/- The number of algorithms: the program's and the reference's. -/
import Derived.Test.YtohjbabjkjcddaaServed
import Derived.Test.YtohjbabjkjcddaaImplB
namespace Go.Proofs.Ytohjbabjkjcddaa
open Go.RowKit

theorem probB_len {M S : List (List Int)} (h : probB M S = true) : 1 ≤ M.length ∧ M.length ≤ 4 ∧ 1 ≤ S.length ∧ S.length ≤ 4 := by
  simp only [probB, Bool.and_eq_true] at h
  have h1 := inB_true.1 h.1.1.1
  have h2 := inB_true.1 h.1.2
  omega
theorem probB_table {M S : List (List Int)} (h : probB M S = true) : tableB M = true := by
  simp only [probB, metB, Bool.and_eq_true] at h
  exact h.1.1.2.1
theorem probB_nodet {M S : List (List Int)} (h : probB M S = true) : NoDetour M := by
  simp only [probB, metB, NoDetB, Bool.and_eq_true, decide_eq_true_eq] at h
  exact h.1.1.2.2
theorem probB_row {M S : List (List Int)} (h : probB M S = true) {k : Nat} (hk : k < S.length) : (row S k).length = M.length ∧ (∀ c ∈ row S k, -1 ≤ c ∧ c ≤ 20) ∧ ∃ c ∈ row S k, 0 ≤ c := by
  simp only [probB, Bool.and_eq_true, decide_eq_true_eq] at h
  have h1 := h.2 _ (row_mem hk)
  simp only [reqB, costsOk, canServe, Bool.and_eq_true, decide_eq_true_eq] at h1
  exact ⟨by omega, h1.1.1, h1.2⟩
theorem probB_serve {M S : List (List Int)} (h : probB M S = true) {k x : Nat} (hk : k < S.length) (hx : x < M.length) : -1 ≤ cell S k x ∧ cell S k x ≤ 20 := by
  have h1 := probB_row h hk
  exact h1.2.1 _ (nth_mem (by omega))
theorem probB_move {M S : List (List Int)} (h : probB M S = true) {x y : Nat} (hx : x < M.length) (hy : y < M.length) : 0 ≤ cell M x y ∧ cell M x y ≤ 99 :=
  tableB_cell (probB_table h) hx hy

def canN (cs : List Int) : Nat := (servedL cs).length
def prodTo (S : List (List Int)) : Nat → Nat
  | 0 => 1
  | k + 1 => prodTo S k * canN (row S k)
/-- the number of algorithms -/
def countA (M S : List (List Int)) : Nat := prodTo S S.length ^ M.length

theorem canN_le {M S : List (List Int)} (h : probB M S = true) {k : Nat} (hk : k < S.length) : canN (row S k) ≤ 4 := by
  have h1 := (probB_row h hk).1
  have h2 := probB_len h
  have h3 := servedTo_length (row S k) (row S k).length
  unfold canN servedL
  omega
theorem prodTo_le {M S : List (List Int)} (h : probB M S = true) : ∀ k, k ≤ S.length → prodTo S k ≤ 4 ^ k
  | 0, _ => by simp [prodTo]
  | k + 1, hk => by
    rw [prodTo, Nat.pow_succ]
    exact Nat.mul_le_mul (prodTo_le h k (by omega)) (canN_le h (by omega))
theorem count_le {M S : List (List Int)} (h : probB M S = true) {k i : Nat} (hk : k < M.length) (hi : i < S.length) : prodTo S S.length ^ k * prodTo S i * canN (row S i) ≤ 4294967296 := by
  have h2 := probB_len h
  have h3 : prodTo S S.length ≤ 256 := Nat.le_trans (prodTo_le h _ (Nat.le_refl _)) (Nat.le_trans (Nat.pow_le_pow_right (by omega) h2.2.2.2) (by decide))
  have h4 : prodTo S S.length ^ k ≤ 256 ^ 3 := Nat.le_trans (Nat.pow_le_pow_left h3 k) (Nat.pow_le_pow_right (by omega) (by omega))
  have h5 : prodTo S i * canN (row S i) ≤ 4 ^ (i + 1) := prodTo_le h (i + 1) (by omega)
  have h6 : 4 ^ (i + 1) ≤ 4 ^ 4 := Nat.pow_le_pow_right (by omega) (by omega)
  rw [Nat.mul_assoc]
  exact Nat.le_trans (Nat.mul_le_mul h4 (Nat.le_trans h5 h6)) (by decide)

def countR (M S : List (List Int)) : Int := if probB M S = true then (countA M S : Int) else 0

theorem spec_le {M S : List (List Int)} (h : probB M S = true) {r s : Nat} (hr : r < S.length) (hs : s < M.length) : prodTo S r ^ M.length * canN (row S r) ^ s * canN (row S r) ≤ 4294967296 := by
  have h2 := probB_len h
  have h3 : prodTo S r ≤ 64 := Nat.le_trans (prodTo_le h _ (by omega)) (Nat.le_trans (Nat.pow_le_pow_right (n := 4) (by omega) (show r ≤ 3 by omega)) (by decide))
  have h4 : prodTo S r ^ M.length ≤ 64 ^ 4 := Nat.le_trans (Nat.pow_le_pow_left h3 _) (Nat.pow_le_pow_right (by omega) h2.2.1)
  have h5 : canN (row S r) ^ (s + 1) ≤ 4 ^ 4 := Nat.le_trans (Nat.pow_le_pow_left (canN_le h hr) _) (Nat.pow_le_pow_right (by omega) (by omega))
  rw [Nat.mul_assoc, ← Nat.pow_succ]
  exact Nat.le_trans (Nat.mul_le_mul h4 h5) (by decide)

end Go.Proofs.Ytohjbabjkjcddaa
