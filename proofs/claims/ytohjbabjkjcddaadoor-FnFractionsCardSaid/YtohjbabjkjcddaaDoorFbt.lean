/- The simplest fraction between two, in plain words. -/
import Derived.Test.YtohjbabjkjcddaaDoorFcp
namespace Go.Proofs.YtohjbabjkjcddaaDoor
open Go.RowKit

/-- the least number above a, in parts of den -/
def btN (aN aD den : Int) : Int := aN * den / aD + 1
def btOk (aN aD bN bD den : Int) : Bool := decide (btN aN aD den * bD < bN * den)
theorem btN_gt {aN aD : Int} (den : Int) (h : 0 < aD) : aN * den < btN aN aD den * aD := Int.lt_ediv_add_one_mul_self _ h
theorem btN_le {aN aD den n : Int} (h : 0 < aD) (hn : aN * den < n * aD) : btN aN aD den ≤ n := by
  unfold btN
  have := Int.ediv_lt_of_lt_mul h hn
  omega
/-- the first place that passes gives a reduced fraction -/
theorem bt_gcd {aN aD bN bD den : Int} (ha : 0 < aD) (hd : 1 ≤ den) (hb : 0 < bD) (hok : btOk aN aD bN bD den = true) (hno : ∀ e, 1 ≤ e → e < den → btOk aN aD bN bD e = false) :
    Nat.gcd (btN aN aD den).natAbs den.toNat = 1 := by
  obtain ⟨n, hn⟩ : ∃ n, n = btN aN aD den := ⟨_, rfl⟩
  have hgt := btN_gt (aN := aN) den ha
  unfold btOk at hok
  rw [decide_eq_true_eq, ← hn] at hok
  rw [← hn] at hgt ⊢
  obtain ⟨g, hg⟩ : ∃ g, g = Nat.gcd n.natAbs den.toNat := ⟨_, rfl⟩
  have hgp : 0 < g := by rw [hg]; exact gcd_pos hd
  rw [← hg]
  obtain ⟨d1, hd1⟩ : g ∣ den.toNat := by rw [hg]; exact Nat.gcd_dvd_right _ _
  obtain ⟨n1, hn1⟩ : (g : Int) ∣ n := by
    rw [hg]
    exact Int.ofNat_dvd_left.2 (Nat.gcd_dvd_left _ _)
  have hden : den = (g : Int) * (d1 : Int) := by rw [← Int.natCast_mul, ← hd1]; omega
  have hd1p : 0 < d1 := by
    rcases Nat.eq_zero_or_pos d1 with h0 | h0
    · rw [h0] at hden; simp at hden; omega
    · exact h0
  by_cases h1 : g = 1
  · exact h1
  · exfalso
    have hgi : (0 : Int) < g := by omega
    have e1 : aN * (d1 : Int) < n1 * aD := by
      rw [hn1, hden] at hgt
      have h2 : (g : Int) * (aN * d1) < (g : Int) * (n1 * aD) := by
        rw [Int.mul_left_comm, ← Int.mul_assoc (g : Int)]; exact hgt
      exact Int.lt_of_mul_lt_mul_left h2 (by omega)
    have e2 : n1 * bD < bN * (d1 : Int) := by
      rw [hn1, hden] at hok
      have h2 : (g : Int) * (n1 * bD) < (g : Int) * (bN * d1) := by
        rw [← Int.mul_assoc, Int.mul_left_comm (g : Int) bN]; exact hok
      exact Int.lt_of_mul_lt_mul_left h2 (by omega)
    have h3 := btN_le ha e1
    have h4 : btN aN aD d1 * bD ≤ n1 * bD := Int.mul_le_mul_of_nonneg_right h3 (by omega)
    have hlt : (d1 : Int) < den := by
      rw [hden]
      have : (1 : Int) * d1 < (g : Int) * d1 := Int.mul_lt_mul_of_pos_right (by omega) (by omega)
      omega
    have h5 := hno d1 (by omega) hlt
    unfold btOk at h5
    rw [decide_eq_false_iff_not] at h5
    omega
/-- no place passes where a is not below b -/
theorem bt_none {aN aD bN bD den : Int} (ha : 0 < aD) (hb : 0 < bD) (hd : 1 ≤ den) (h : bN * aD ≤ aN * bD) : btOk aN aD bN bD den = false := by
  unfold btOk
  rw [decide_eq_false_iff_not]
  intro h1
  have h2 := btN_gt (aN := aN) den ha
  have h3 : aN * den * bD < btN aN aD den * aD * bD := Int.mul_lt_mul_of_pos_right h2 hb
  have h4 : btN aN aD den * bD * aD < bN * den * aD := Int.mul_lt_mul_of_pos_right h1 ha
  have h5 : bN * aD * den ≤ aN * bD * den := Int.mul_le_mul_of_nonneg_right h (by omega)
  have e1 : btN aN aD den * aD * bD = btN aN aD den * bD * aD := by rw [Int.mul_assoc, Int.mul_comm aD, ← Int.mul_assoc]
  have e2 : bN * den * aD = bN * aD * den := by rw [Int.mul_assoc, Int.mul_comm den, ← Int.mul_assoc]
  have e3 : aN * den * bD = aN * bD * den := by rw [Int.mul_assoc, Int.mul_comm den, ← Int.mul_assoc]
  rw [e1] at h3
  rw [e2] at h4
  rw [e3] at h3
  omega
/-- out of range once, out of range ever after -/
theorem bt_range {aN aD d e : Int} (ha : 0 < aD) (hd : 1 ≤ d) (hde : d ≤ e) (h : btN aN aD d < -100000000 ∨ 100000000 < btN aN aD d) : btN aN aD e < -100000000 ∨ 100000000 < btN aN aD e := by
  by_cases hs : 0 ≤ aN
  · have h0 : 0 ≤ aN * d / aD := Int.ediv_nonneg (Int.mul_nonneg hs (by omega)) (by omega)
    have h1 : aN * d / aD ≤ aN * e / aD := Int.ediv_le_ediv ha (Int.mul_le_mul_of_nonneg_left hde hs)
    unfold btN at *
    omega
  · have h0 : aN * d / aD < 0 := Int.ediv_neg_of_neg_of_pos (Int.mul_neg_of_neg_of_pos (by omega) (by omega)) ha
    have h1 : aN * e / aD ≤ aN * d / aD := Int.ediv_le_ediv ha (Int.mul_le_mul_of_nonpos_left (by omega) hde)
    unfold btN at *
    omega
end Go.Proofs.YtohjbabjkjcddaaDoor
