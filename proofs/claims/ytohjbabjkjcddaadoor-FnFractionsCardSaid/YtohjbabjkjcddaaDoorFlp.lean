/- What FnFractions says, in plain words: sums and products are undone, comparison, floors and what lies between. -/
import Derived.Test.YtohjbabjkjcddaaDoorFtp
import Derived.Test.YtohjbabjkjcddaaDoorFrb
namespace Go.Proofs.YtohjbabjkjcddaaDoor
open Go.RowKit

theorem mk_cross {n d : Int} (hd : 1 ≤ d) : mkN n d * d = n * mkD n d := by
  obtain ⟨g, hg⟩ : ∃ g, g = Nat.gcd n.natAbs d.toNat := ⟨_, rfl⟩
  have hgp : 0 < g := by rw [hg]; exact gcd_pos hd
  obtain ⟨k, hk⟩ : (g : Int) ∣ n := by rw [hg]; exact Int.ofNat_dvd_left.2 (Nat.gcd_dvd_left _ _)
  obtain ⟨l, hl⟩ : (g : Int) ∣ d := by
    rw [hg]
    have := Nat.gcd_dvd_right n.natAbs d.toNat
    rw [show d.toNat = d.natAbs by omega] at this ⊢
    exact Int.ofNat_dvd_left.2 this
  have e1 : mkN n d = k := by unfold mkN; rw [← hg, hk, Int.mul_tdiv_cancel_left _ (by omega)]
  have e2 : mkD n d = l := by unfold mkD; rw [← hg, hl, Int.mul_tdiv_cancel_left _ (by omega)]
  rw [e1, e2, hk, hl]
  ac_rfl
theorem afB_iff {a b c d n m : Int} (h : afB a b c d n m = true) : fracB a b = true ∧ fracB c d = true ∧ mkB n m = true ∧ afN a b c d n m = mkN n m ∧ afD a b c d n m = mkD n m := by
  unfold afB at h
  rw [Bool.and_eq_true] at h
  have h1 := h.1
  unfold fcB at h1
  rw [Bool.and_eq_true] at h1
  refine ⟨h1.1, h1.2, h.2, ?_, ?_⟩
  · rw [afN, h.1, if_pos rfl, mrN, h.2, if_pos rfl]
  · rw [afD, h.1, if_pos rfl, mrD, h.2, if_pos rfl]
theorem af_of {a b c d n m x y : Int} (h1 : fracB a b = true) (h2 : fracB c d = true) (h : mkN n m = x ∧ mkD n m = y ∧ mkB n m = true) : afN a b c d n m = x ∧ afD a b c d n m = y ∧ afB a b c d n m = true := by
  have hf : fcB a b c d = true := by rw [fcB, h1, h2]; rfl
  refine ⟨?_, ?_, ?_⟩
  · rw [afN, hf, if_pos rfl, mrN, h.2.2, if_pos rfl]; exact h.1
  · rw [afD, hf, if_pos rfl, mrD, h.2.2, if_pos rfl]; exact h.2.1
  · rw [afB, hf, h.2.2]; rfl
theorem den_pos {a b c d : Int} (h1 : fracB a b = true) (h2 : fracB c d = true) : 1 ≤ b * d := by
  have q1 := fracB_in h1
  have q2 := fracB_in h2
  exact Int.le_trans (show 1 ≤ b by omega) (by have := Int.mul_le_mul_of_nonneg_left (show 1 ≤ d by omega) (show 0 ≤ b by omega); omega)
/-- a sum less a fraction -/
theorem sub_back {a b c d s t : Int} (hs : s = afN a b c d (a * d + c * b) (b * d)) (ht : t = afD a b c d (a * d + c * b) (b * d)) (h : afB a b c d (a * d + c * b) (b * d) = true) :
    fracB s t = true ∧ fracB c d = true ∧ afN s t c d (s * d - c * t) (t * d) = a ∧ afD s t c d (s * d - c * t) (t * d) = b ∧ afB s t c d (s * d - c * t) (t * d) = true := by
  obtain ⟨h1, h2, h3, h4, h5⟩ := afB_iff h
  rw [h4] at hs
  rw [h5] at ht
  have hf : fracB s t = true := by rw [hs, ht]; exact h3
  have hx := mk_cross (n := a * d + c * b) (den_pos h1 h2)
  rw [← hs, ← ht] at hx
  refine ⟨hf, h2, af_of hf h2 (mk_of_eq (den_pos hf h2) h1 ?_)⟩
  have e1 : (s * d - c * t) * b = s * (b * d) - c * b * t := by rw [Int.sub_mul]; congr 1 <;> ac_rfl
  have e2 : a * d * t = a * (t * d) := by ac_rfl
  rw [e1, hx, Int.add_mul]
  omega
/-- a product over a fraction -/
theorem div_pos {a b c d s t : Int} (hc : 0 < c) (hs : s = afN a b c d (a * c) (b * d)) (ht : t = afD a b c d (a * c) (b * d)) (h : afB a b c d (a * c) (b * d) = true) :
    fracB s t = true ∧ fracB c d = true ∧ mkN (s * d) (t * c) = a ∧ mkD (s * d) (t * c) = b ∧ mkB (s * d) (t * c) = true := by
  obtain ⟨h1, h2, h3, h4, h5⟩ := afB_iff h
  rw [h4] at hs
  rw [h5] at ht
  have hf : fracB s t = true := by rw [hs, ht]; exact h3
  have hx := mk_cross (n := a * c) (den_pos h1 h2)
  rw [← hs, ← ht] at hx
  have hp := fracB_in hf
  have hp2 : 1 ≤ t * c := Int.le_trans (show 1 ≤ t by omega) (by have := Int.mul_le_mul_of_nonneg_left (show 1 ≤ c by omega) (show 0 ≤ t by omega); omega)
  refine ⟨hf, h2, mk_of_eq hp2 h1 ?_⟩
  have e1 : s * d * b = s * (b * d) := by ac_rfl
  rw [e1, hx]
  ac_rfl
theorem div_neg {a b c d s t : Int} (hc : c < 0) (hs : s = afN a b c d (a * c) (b * d)) (ht : t = afD a b c d (a * c) (b * d)) (h : afB a b c d (a * c) (b * d) = true) :
    fracB s t = true ∧ fracB c d = true ∧ mkN ((-s) * d) ((-t) * c) = a ∧ mkD ((-s) * d) ((-t) * c) = b ∧ mkB ((-s) * d) ((-t) * c) = true := by
  obtain ⟨h1, h2, h3, h4, h5⟩ := afB_iff h
  rw [h4] at hs
  rw [h5] at ht
  have hf : fracB s t = true := by rw [hs, ht]; exact h3
  have hx := mk_cross (n := a * c) (den_pos h1 h2)
  rw [← hs, ← ht] at hx
  have hp := fracB_in hf
  have hp2 : 1 ≤ (-t) * c := by
    rw [Int.neg_mul, ← Int.mul_neg]
    exact Int.le_trans (show 1 ≤ t by omega) (by have := Int.mul_le_mul_of_nonneg_left (show 1 ≤ -c by omega) (show 0 ≤ t by omega); omega)
  refine ⟨hf, h2, mk_of_eq hp2 h1 ?_⟩
  have e1 : s * d * b = s * (b * d) := by ac_rfl
  rw [Int.neg_mul, Int.neg_mul, e1, hx, Int.neg_mul, Int.mul_neg]
  congr 1
  ac_rfl
theorem cmp1_anti (x y : Int) : cmp1 x y = -(cmp1 y x) := by
  unfold cmp1
  split <;> split <;> first | rfl | (split <;> omega) | omega
theorem cmp1_zero {x y : Int} : cmp1 x y = 0 ↔ x = y := by
  unfold cmp1
  split
  · omega
  · split <;> omega
theorem fcB_comm (a b c d : Int) : fcB a b c d = fcB c d a b := Bool.and_comm _ _
theorem fcV_anti (a b c d : Int) : fcV a b c d = -(fcV c d a b) := by
  unfold fcV
  rw [fcB_comm c d a b]
  cases fcB a b c d with
  | false => rfl
  | true => simp only [if_true]; exact cmp1_anti _ _
theorem frac_same {a b c d : Int} (h1 : fracB a b = true) (h2 : fracB c d = true) (h : a * d = c * b) : a = c ∧ b = d := by
  have q := fracB_in h1
  have e1 := mk_of_eq (by omega) h2 h
  have e2 := mk_of_eq (n := a) (d := b) (by omega) h1 rfl
  exact ⟨e2.1.symm.trans e1.1, e2.2.1.symm.trans e1.2.1⟩
theorem fcV_zero {a b c d : Int} (h : fcB a b c d = true) : fcV a b c d = 0 ↔ a = c ∧ b = d := by
  have h' := h
  unfold fcB at h'
  rw [Bool.and_eq_true] at h'
  rw [fcV, h, if_pos rfl, cmp1_zero]
  exact ⟨frac_same h'.1 h'.2, fun ⟨e1, e2⟩ => by rw [e1, e2]⟩
/-- floors and ceilings -/
theorem floors {a b : Int} (h : fracB a b = true) : a / b * b ≤ a ∧ a ≤ -((-a) / b) * b ∧ -((-a) / b) - a / b ≤ 1 ∧ (-((-a) / b) = a / b ↔ b = 1) ∧ (-100000000 ≤ a / b ∧ a / b ≤ 100000000) ∧ (-100000000 ≤ -((-a) / b) ∧ -((-a) / b) ≤ 100000000) := by
  have hb := fracB_in h
  have h1 := Int.ediv_mul_le a (show b ≠ 0 by omega)
  have h2 := Int.ediv_mul_le (-a) (show b ≠ 0 by omega)
  have h3 := Int.lt_ediv_add_one_mul_self a (show 0 < b by omega)
  have h4 := Int.lt_ediv_add_one_mul_self (-a) (show 0 < b by omega)
  have b1 := Int.natAbs_ediv_le_natAbs a b
  have b2 := Int.natAbs_ediv_le_natAbs (-a) b
  obtain ⟨q, hq⟩ : ∃ q, q = a / b := ⟨_, rfl⟩
  obtain ⟨r, hr⟩ : ∃ r, r = (-a) / b := ⟨_, rfl⟩
  rw [← hq] at h1 h3 b1 ⊢
  rw [← hr] at h2 h4 b2 ⊢
  have h5 : 0 < (q + r + 2) * b := by
    have : (q + r + 2) * b = (q + 1) * b + (r + 1) * b := by rw [← Int.add_mul]; congr 1; omega
    omega
  have h6 : 0 < q + r + 2 := by
    rcases Int.lt_or_le 0 (q + r + 2) with h | h
    · exact h
    · have := Int.mul_nonpos_of_nonpos_of_nonneg h (show 0 ≤ b by omega)
      omega
  refine ⟨h1, by rw [Int.neg_mul]; omega, by omega, ⟨fun e => ?_, fun e => ?_⟩, by omega, by omega⟩
  · have e2 : q * b = a := by
      rw [← e, Int.neg_mul] at h1
      rw [← e, Int.neg_mul]
      omega
    have hg : Nat.gcd a.natAbs b.toNat = 1 := by
      have h1 := h
      unfold fracB at h1
      rw [Bool.and_eq_true, Bool.and_eq_true, decide_eq_true_eq] at h1
      exact h1.2.2
    rw [← e2, Int.natAbs_mul, show b.toNat = b.natAbs by omega, Nat.gcd_comm, Nat.gcd_mul_left_right] at hg
    omega
  · subst e
    rw [hq, hr, Int.ediv_one, Int.ediv_one]
    omega
/-- what lies between two fractions compares so -/
theorem bt_cmp {a b c d n m : Int} (h : BtPost a b c d n m true) (h1 : fracB a b = true) (h2 : fracB c d = true) : fracB n m = true ∧ fcB a b n m = true ∧ fcB n m c d = true ∧ fcV a b n m = -1 ∧ fcV n m c d = -1 ∧ ∀ e, 1 ≤ e → e < m → btOk a b c d e = false := by
  rcases h with ⟨_, h3, h4, h5, h6, h7, h8⟩ | ⟨h, _⟩
  · have f1 : fcB a b n m = true := by rw [fcB, h1, h7]; rfl
    have f2 : fcB n m c d = true := by rw [fcB, h2, h7]; rfl
    have q := fracB_in h1
    have g := btN_gt (aN := a) m (show 0 < b by omega)
    rw [← h5] at g
    unfold btOk at h6
    rw [decide_eq_true_eq, ← h5] at h6
    exact ⟨h7, f1, f2, by rw [fcV, f1, if_pos rfl, cmp1, if_pos g], by rw [fcV, f2, if_pos rfl, cmp1, if_pos h6], h8⟩
  · cases h
end Go.Proofs.YtohjbabjkjcddaaDoor
