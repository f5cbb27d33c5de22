/- All sequences of a length, in order; the worst one. -/
import Derived.Test.YtkniohcmhdgbeaaArg
namespace Go.Proofs.Ytkniohcmhdgbeaa
open Go.RowKit

--PURE
/-- the digit of k at the power p -/
def digP (m k p : Nat) : Nat := k / m ^ p % m
/-- the k-th sequence -/
def seqOf (m len k : Nat) : List Int := (List.range len).map fun i => (digP m k (len - 1 - i) : Int)
theorem seqOf_length (m len k : Nat) : (seqOf m len k).length = len := by simp [seqOf]
theorem nth_seqOf {m len k i : Nat} (h : i < len) : nth (seqOf m len k) i = (digP m k (len - 1 - i) : Int) := by simp [seqOf, nth, h]
theorem seqOf_in {m len k i : Nat} (hm : 0 < m) (h : i < len) : 0 ≤ nth (seqOf m len k) i ∧ nth (seqOf m len k) i < m := by
  rw [nth_seqOf h]
  have : digP m k (len - 1 - i) < m := Nat.mod_lt _ hm
  omega
/-- one more: behind p digits that are the last ones -/
theorem dig_succ {m k p : Nat} (hm : 0 < m) (ht : (k + 1) % m ^ p = 0) (hd : digP m k p ≠ m - 1) :
    (∀ q, q < p → digP m (k + 1) q = 0) ∧ digP m (k + 1) p = digP m k p + 1 ∧ ∀ q, p < q → digP m (k + 1) q = digP m k q := by
  have hmp : 0 < m ^ p := Nat.pow_pos hm
  obtain ⟨c, hc⟩ : ∃ c, k + 1 = m ^ p * c := Nat.dvd_of_mod_eq_zero ht
  have hcp : 0 < c := by
    rcases Nat.eq_zero_or_pos c with h | h
    · rw [h, Nat.mul_zero] at hc; omega
    · exact h
  have hk : k / m ^ p = c - 1 := by
    have e : k = m ^ p * (c - 1) + (m ^ p - 1) := by
      have : m ^ p * c = m ^ p * (c - 1) + m ^ p := by
        rw [← Nat.mul_succ]; congr 1; omega
      omega
    rw [e, Nat.mul_add_div hmp, Nat.div_eq_of_lt (by omega)]
    omega
  have hk1 : (k + 1) / m ^ p = c := by rw [hc, Nat.mul_div_cancel_left _ hmp]
  have hdv : digP m k p = (c - 1) % m := by rw [digP, hk]
  rw [hdv] at hd
  have hlt := Nat.mod_lt (c - 1) hm
  have hdm := Nat.div_add_mod (c - 1) m
  have hc2 : c = m * ((c - 1) / m) + ((c - 1) % m + 1) := by omega
  have hcm : c % m = (c - 1) % m + 1 := by
    rw [hc2, Nat.mul_add_mod, Nat.mod_eq_of_lt (by omega)]
    rw [← hc2]
  have hcd : c / m = (c - 1) / m := by
    rw [hc2, Nat.mul_add_div hm, Nat.div_eq_of_lt (a := (c - 1) % m + 1) (by omega), Nat.add_zero]
    rw [← hc2]
  refine ⟨fun q hq => ?_, ?_, fun q hq => ?_⟩
  · have e : m ^ p = m ^ q * (m * m ^ (p - q - 1)) := by
      rw [← Nat.pow_succ', ← Nat.pow_add]; congr 1; omega
    rw [digP, hc, e, Nat.mul_assoc, Nat.mul_div_cancel_left _ (Nat.pow_pos hm), Nat.mul_assoc, Nat.mul_mod_right]
  · rw [digP, hk1, hdv, hcm]
  · have e : m ^ q = m ^ p * (m * m ^ (q - p - 1)) := by
      rw [← Nat.pow_succ', ← Nat.pow_add]; congr 1; omega
    rw [digP, digP, e, ← Nat.div_div_eq_div_mul, ← Nat.div_div_eq_div_mul, ← Nat.div_div_eq_div_mul, ← Nat.div_div_eq_div_mul, hk1, hk, hcd]
/-- the p+1 last digits are the greatest -/
theorem tail_succ {m k p : Nat} (hm : 0 < m) (ht : (k + 1) % m ^ p = 0) (hd : digP m k p = m - 1) : (k + 1) % m ^ (p + 1) = 0 := by
  have hmp : 0 < m ^ p := Nat.pow_pos hm
  obtain ⟨c, hc⟩ : ∃ c, k + 1 = m ^ p * c := Nat.dvd_of_mod_eq_zero ht
  have hcp : 0 < c := by
    rcases Nat.eq_zero_or_pos c with h | h
    · rw [h, Nat.mul_zero] at hc; omega
    · exact h
  have hk : k / m ^ p = c - 1 := by
    have e : k = m ^ p * (c - 1) + (m ^ p - 1) := by
      have : m ^ p * c = m ^ p * (c - 1) + m ^ p := by
        rw [← Nat.mul_succ]; congr 1; omega
      omega
    rw [e, Nat.mul_add_div hmp, Nat.div_eq_of_lt (by omega)]
    omega
  rw [digP, hk] at hd
  have hdm := Nat.div_add_mod (c - 1) m
  have hc2 : c = m * ((c - 1) / m + 1) := by rw [Nat.mul_add, Nat.mul_one]; omega
  rw [hc, hc2, Nat.pow_succ, ← Nat.mul_assoc, Nat.mul_mod_right]
/-- the last sequence -/
theorem last_code {m k p : Nat} (ht : (k + 1) % m ^ p = 0) (hk : k < m ^ p) : k + 1 = m ^ p := by
  have h := Nat.div_add_mod (k + 1) (m ^ p)
  rw [ht] at h
  rcases Nat.lt_or_ge (k + 1) (m ^ p) with h1 | h1
  · rw [Nat.mod_eq_of_lt h1] at ht; omega
  · omega
theorem seqOf_zero {m len : Nat} (_hm : 0 < m) : seqOf m len 0 = List.replicate len 0 := by
  refine eq_of_nth (by rw [seqOf_length, List.length_replicate]) fun j hj => ?_
  rw [seqOf_length] at hj
  rw [nth_seqOf hj]
  simp [digP, nth, hj]

theorem stAt_cons (N : List (List Int)) (s r : Int) (X : List Int) : ∀ k, stAt N s (r :: X) (k + 1) = stAt N (cell N s.toNat r.toNat) X k
  | 0 => rfl
  | k + 1 => by rw [stAt, stAt_cons N s r X k]; rfl
theorem sumA_cons (M S N : List (List Int)) (s r : Int) (X : List Int) : ∀ k, sumA M S N s (r :: X) (k + 1) = stepC M S r s (cell N s.toNat r.toNat) + sumA M S N (cell N s.toNat r.toNat) X k
  | 0 => by simp [sumA, stAt, nth]
  | k + 1 => by
    rw [sumA, sumA_cons M S N s r X k, sumA, stAt_cons, stAt_cons]
    have : nth (r :: X) (k + 1) = nth X k := rfl
    rw [this]
    omega
/-- no algorithm costs less than the least cost -/
theorem opt_le_sumA {M S N : List (List Int)} (hp : probB M S = true) (ha : algB M S N = true) : ∀ (X : List Int) (s : Int), 0 ≤ s → s < M.length → (∀ x ∈ X, 0 ≤ x ∧ x < S.length) → X.length ≤ 60 →
    optL M S (row M s.toNat) X ≤ sumA M S N s X X.length
  | [], s, h0, h1, _, _ => by rw [optL_nil hp (by omega)]; exact Int.le_refl _
  | r :: X, s, h0, h1, hX, hl => by
    have hr := hX r (by simp)
    have hst := stOk_in (algB_at ha (k := s.toNat) (r := r.toNat) (by omega) (by omega))
    simp only [List.length_cons] at hl
    have ih := opt_le_sumA hp ha X (cell N s.toNat r.toNat) hst.1 hst.2.1 (fun x hx => hX x (by simp [hx])) (by omega)
    have h := (opt_step (X := X) hp (s := s.toNat) (by omega) hr (fun x hx => hX x (by simp [hx])) (by omega)).2 (cell N s.toNat r.toNat) (servedTo_mem.2 ⟨(cell N s.toNat r.toNat).toNat, by
      rw [(probB_row hp (by omega)).1]; omega, hst.2.2, by omega⟩)
    rw [List.length_cons, sumA_cons]
    have e : stepC M S r (s.toNat : Int) (cell N s.toNat r.toNat) = stepC M S r s (cell N s.toNat r.toNat) := by
      rw [Int.toNat_of_nonneg h0]
    have h' : optL M S (row M s.toNat) (r :: X) ≤ stepC M S r (s.toNat : Int) (cell N s.toNat r.toNat) + optL M S (row M (cell N s.toNat r.toNat).toNat) X := h
    omega

/-- what the algorithm loses on the k-th sequence -/
def lossK (M S N : List (List Int)) (s : Int) (len k : Nat) : Int := sumA M S N s (seqOf S.length len k) len - optL M S (row M s.toNat) (seqOf S.length len k)
/-- the worst one among the first k: its number and its loss -/
def worstTo (d : Nat → Int) : Nat → Nat × Int
  | 0 => (0, -1)
  | k + 1 => if (worstTo d k).2 < d k then (k, d k) else worstTo d k
theorem worstTo_ge (d : Nat → Int) : ∀ k, -1 ≤ (worstTo d k).2
  | 0 => Int.le_refl _
  | k + 1 => by
    have := worstTo_ge d k
    rw [worstTo]
    split
    · show -1 ≤ d k; omega
    · exact this
theorem loss_ge {M S N : List (List Int)} (hp : probB M S = true) (ha : algB M S N = true) {s : Int} (h0 : 0 ≤ s) (h1 : s < M.length) {len : Nat} (hl : len ≤ 5) (k : Nat) : 0 ≤ lossK M S N s len k := by
  have hn := probB_len hp
  have := opt_le_sumA hp ha (seqOf S.length len k) s h0 h1 (fun x hx => by
    obtain ⟨j, hj, rfl⟩ := mem_iff_nth.1 hx
    rw [seqOf_length] at hj
    exact seqOf_in (by omega) hj) (by rw [seqOf_length]; omega)
  rw [seqOf_length] at this
  unfold lossK
  omega

end Go.Proofs.Ytkniohcmhdgbeaa
