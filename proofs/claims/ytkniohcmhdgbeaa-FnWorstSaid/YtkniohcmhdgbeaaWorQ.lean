/- The plain law of the worst sequence: its loss is told, and no other sequence of its length has a greater one. -/
import Derived.Test.YtkniohcmhdgbeaaWorstS
import Derived.Test.YtkniohcmhdgbeaaSchP
namespace Go.Proofs.Ytkniohcmhdgbeaa
open Go.RowKit

--PURE
theorem worstTo_all (d : Nat → Int) : ∀ (k j : Nat), j < k → d j ≤ (worstTo d k).2
  | 0, j, h => by omega
  | k + 1, j, h => by
    rw [worstTo]
    split
    · rename_i hlt
      show d j ≤ d k
      by_cases e : j = k
      · rw [e]; exact Int.le_refl _
      · have := worstTo_all d k j (by omega); omega
    · rename_i hlt
      by_cases e : j = k
      · rw [e]; omega
      · exact worstTo_all d k j (by omega)
theorem wsL_worst {d : Nat → Int} (hd : ∀ k, 0 ≤ d k) (m len : Nat) : ∀ k, 0 < k → ∃ j, j < k ∧ wsL d m len k = seqOf m len j ∧ (worstTo d k).2 = d j
  | 0, h => by omega
  | k + 1, _ => by
    rw [wsL, worstTo]
    by_cases hlt : (worstTo d k).2 < d k
    · rw [if_pos hlt, if_pos hlt]
      exact ⟨k, by omega, rfl, rfl⟩
    · rw [if_neg hlt, if_neg hlt]
      rcases Nat.eq_zero_or_pos k with h0 | h0
      · subst h0
        exfalso
        apply hlt
        have := hd 0
        show (-1 : Int) < d 0
        omega
      · obtain ⟨j, h1, h2, h3⟩ := wsL_worst hd m len k h0
        exact ⟨j, by omega, h2, h3⟩
/-- the number of a sequence -/
def numOf (m : Nat) : List Int → Nat
  | [] => 0
  | y :: Y => y.toNat * m ^ Y.length + numOf m Y
theorem numOf_lt {m : Nat} : ∀ {Y : List Int}, (∀ y ∈ Y, 0 ≤ y ∧ y < (m : Int)) → numOf m Y < m ^ Y.length
  | [], _ => by simp [numOf]
  | y :: Y, h => by
    have h1 := h y (by simp)
    have h2 := numOf_lt (Y := Y) (fun x hx => h x (by simp [hx]))
    have h3 : y.toNat + 1 ≤ m := by omega
    have h4 := Nat.mul_le_mul_right (m ^ Y.length) h3
    rw [Nat.add_mul, Nat.one_mul] at h4
    rw [numOf, List.length_cons, Nat.pow_succ, Nat.mul_comm (m ^ Y.length) m]
    omega
theorem numOf_mod {m : Nat} {y : Int} {Y : List Int} (h : ∀ x ∈ Y, 0 ≤ x ∧ x < (m : Int)) {p : Nat} (hp : p < Y.length) : digP m (numOf m (y :: Y)) p = digP m (numOf m Y) p := by
  have e : m ^ Y.length = m ^ p * (m * m ^ (Y.length - p - 1)) := by
    rw [← Nat.pow_succ', ← Nat.pow_add]; congr 1; omega
  have hm : 0 < m := by
    have := h _ (nth_mem (xs := Y) (k := 0) (by omega))
    omega
  have hmp : 0 < m ^ p := Nat.pow_pos hm
  unfold digP
  rw [numOf, e, show y.toNat * (m ^ p * (m * m ^ (Y.length - p - 1))) = m ^ p * (m * (y.toNat * m ^ (Y.length - p - 1))) by
    rw [Nat.mul_left_comm]; congr 1; rw [Nat.mul_left_comm], Nat.mul_add_div hmp, Nat.mul_add_mod]
theorem seqOf_num {m : Nat} : ∀ {Y : List Int}, (∀ y ∈ Y, 0 ≤ y ∧ y < (m : Int)) → seqOf m Y.length (numOf m Y) = Y
  | [], _ => by simp [seqOf]
  | y :: Y, h => by
    have h1 := h y (by simp)
    have hY : ∀ x ∈ Y, 0 ≤ x ∧ x < (m : Int) := fun x hx => h x (by simp [hx])
    have h2 := seqOf_num hY
    have h3 := numOf_lt hY
    refine eq_of_nth (by rw [seqOf_length]) fun j hj => ?_
    rw [seqOf_length] at hj
    rw [nth_seqOf hj]
    rw [List.length_cons] at hj ⊢
    cases j with
    | zero =>
      show _ = y
      have hmp : 0 < m ^ Y.length := by omega
      rw [show Y.length + 1 - 1 - 0 = Y.length by omega, digP, numOf, Nat.mul_comm, Nat.mul_add_div hmp, Nat.div_eq_of_lt h3, Nat.add_zero, Nat.mod_eq_of_lt (by omega)]
      omega
    | succ j =>
      rw [show Y.length + 1 - 1 - (j + 1) = Y.length - 1 - j by omega, numOf_mod hY (by omega)]
      have h4 : nth (seqOf m Y.length (numOf m Y)) j = nth Y j := by rw [h2]
      rw [nth_seqOf (by omega)] at h4
      exact h4
theorem startB_list {M S : List (List Int)} {s : Int} {X Y : List Int} (h : startB M S s X = true) (hY : ∀ y ∈ Y, 0 ≤ y ∧ y < (S.length : Int)) (hl : Y.length ≤ 60) : startB M S s Y = true := by
  simp only [startB, Bool.and_eq_true] at h ⊢
  refine ⟨h.1, ?_⟩
  simp only [seqB, Bool.and_eq_true]
  refine ⟨by simpa using hl, belowB_of fun k hk => ?_⟩
  have := hY _ (nth_mem hk)
  exact inB_true.2 (by omega)
theorem wsB_parts {M S N : List (List Int)} {s len : Int} (h : wsB M S N s len = true) : startB M S s [] = true ∧ algB M S N = true ∧ 0 ≤ len ∧ len ≤ 5 := by
  simp only [wsB, Bool.and_eq_true] at h
  have h3 := inB_true.1 h.2
  exact ⟨h.1.1, h.1.2, by omega, by omega⟩
theorem loss_of {M S N : List (List Int)} {s : Int} {Y : List Int} (ha : algB M S N = true) (h : startB M S s Y = true) {n k : Nat} (hn : n = Y.length) (hY : seqOf S.length n k = Y) :
    lossK M S N s n k = costA M S N s Y - lcR M S s Y := by
  subst hn
  rw [lossK, hY, costA, if_pos (algOk_true h ha), lcR, if_pos h]
theorem worst_told {M S N : List (List Int)} {s len : Int} (h : wsB M S N s len = true) :
    ((wsR M S N s len).length : Int) = len ∧ startB M S s (wsR M S N s len) = true ∧ algOk M S N s (wsR M S N s len) = true ∧ costA M S N s (wsR M S N s len) - lcR M S s (wsR M S N s len) = wsD M S N s len := by
  obtain ⟨h1, h2, h3, h4⟩ := wsB_parts h
  have hp := startB_prob h1
  have hs := startB_state h1
  have hn := probB_len hp
  have hm : 0 < S.length := by omega
  obtain ⟨j, hj, e1, e2⟩ := wsL_worst (d := lossK M S N s len.toNat) (fun k => loss_ge hp h2 hs.1 hs.2 (by omega) k) S.length len.toNat (S.length ^ len.toNat) (Nat.pow_pos hm)
  rw [wsD_true h, wsR_true h, e1, e2]
  have hst : startB M S s (seqOf S.length len.toNat j) = true := startB_list h1 (fun y hy => by
    obtain ⟨q, hq, rfl⟩ := mem_iff_nth.1 hy
    rw [seqOf_length] at hq
    exact seqOf_in hm hq) (by rw [seqOf_length]; omega)
  refine ⟨by rw [seqOf_length]; omega, hst, algOk_true hst h2, ?_⟩
  rw [loss_of h2 hst (seqOf_length _ _ _).symm rfl]
theorem worst_most {M S N : List (List Int)} {s len : Int} (h : wsB M S N s len = true) {Y : List Int} (hl : (Y.length : Int) = len) (hst : startB M S s Y = true) :
    costA M S N s Y - lcR M S s Y ≤ wsD M S N s len := by
  obtain ⟨h1, h2, h3, h4⟩ := wsB_parts h
  have hY : ∀ y ∈ Y, 0 ≤ y ∧ y < (S.length : Int) := fun y hy => by
    obtain ⟨q, hq, rfl⟩ := mem_iff_nth.1 hy
    exact startB_req hst hq
  have e := seqOf_num hY
  have hlt := numOf_lt hY
  have hn : len.toNat = Y.length := by omega
  rw [wsD_true h, ← loss_of h2 hst rfl e, hn]
  exact worstTo_all _ _ _ hlt
theorem worst_alg {M S N : List (List Int)} {s len : Int} (h : wsB M S N s len = true) (Y : List Int) : algOk M S N s Y = startB M S s Y := by
  obtain ⟨h1, h2, h3, h4⟩ := wsB_parts h
  rw [algOk, h2, Bool.and_true]
end Go.Proofs.Ytkniohcmhdgbeaa
