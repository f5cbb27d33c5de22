/- Fractions in plain words: the reduced form of a fraction is the only one. -/
import Derived.Test.YtohjbabjkjcddaaDoorFrac
namespace Go.Proofs.YtohjbabjkjcddaaDoor
open Go.RowKit

theorem cop_unique {n1 d1 n2 d2 : Nat} (h1 : Nat.gcd n1 d1 = 1) (h2 : Nat.gcd n2 d2 = 1) (hd1 : 0 < d1) (h : n1 * d2 = n2 * d1) : n1 = n2 ∧ d1 = d2 := by
  have c1 : Nat.Coprime d1 n1 := by unfold Nat.Coprime; rw [Nat.gcd_comm]; exact h1
  have c2 : Nat.Coprime d2 n2 := by unfold Nat.Coprime; rw [Nat.gcd_comm]; exact h2
  have a1 : d1 ∣ d2 := c1.dvd_of_dvd_mul_left ⟨n2, by rw [h, Nat.mul_comm]⟩
  have a2 : d2 ∣ d1 := c2.dvd_of_dvd_mul_left ⟨n1, by rw [← h, Nat.mul_comm]⟩
  have hd : d1 = d2 := Nat.dvd_antisymm a1 a2
  subst hd
  exact ⟨Nat.eq_of_mul_eq_mul_right hd1 h, rfl⟩
/-- a fraction that equals a reduced one is made into it -/
theorem mk_of_eq {n d n' d' : Int} (hd : 1 ≤ d) (hf : fracB n' d' = true) (h : n * d' = n' * d) : mkN n d = n' ∧ mkD n d = d' ∧ mkB n d = true := by
  have hb := fracB_in hf
  have hg : Nat.gcd n'.natAbs d'.toNat = 1 := by
    have h1 := hf
    unfold fracB at h1
    rw [Bool.and_eq_true, Bool.and_eq_true, decide_eq_true_eq] at h1
    exact h1.2.2
  obtain ⟨g, hgd⟩ : ∃ g, g = Nat.gcd n.natAbs d.toNat := ⟨_, rfl⟩
  have hgp : 0 < g := by rw [hgd]; exact gcd_pos hd
  obtain ⟨n1, hn1⟩ : g ∣ n.natAbs := by rw [hgd]; exact Nat.gcd_dvd_left _ _
  obtain ⟨d1, hd1⟩ : g ∣ d.toNat := by rw [hgd]; exact Nat.gcd_dvd_right _ _
  have hc : Nat.gcd n1 d1 = 1 := by
    have h1 : Nat.gcd (g * n1) (g * d1) = g := by rw [← hn1, ← hd1, ← hgd]
    rw [Nat.gcd_mul_left] at h1
    exact Nat.eq_of_mul_eq_mul_left hgp (by rw [h1, Nat.mul_one])
  have hd1p : 0 < d1 := by
    rcases Nat.eq_zero_or_pos d1 with h0 | h0
    · rw [h0, Nat.mul_zero] at hd1; omega
    · exact h0
  have habs : n.natAbs * d'.toNat = n'.natAbs * d.toNat := by
    have h1 := congrArg Int.natAbs h
    rw [Int.natAbs_mul, Int.natAbs_mul] at h1
    rw [show d'.toNat = d'.natAbs by omega, show d.toNat = d.natAbs by omega]
    exact h1
  have hk : n1 * d'.toNat = n'.natAbs * d1 := by
    rw [hn1, hd1] at habs
    have : g * (n1 * d'.toNat) = g * (n'.natAbs * d1) := by
      rw [← Nat.mul_assoc, habs, Nat.mul_left_comm]
    exact Nat.eq_of_mul_eq_mul_left hgp this
  obtain ⟨e1, e2⟩ := cop_unique hc hg hd1p hk
  have hd2 : mkD n d = d' := by
    unfold mkD
    rw [← hgd, show d = ((g * d1 : Nat) : Int) by omega, Int.natCast_mul, Int.mul_tdiv_cancel_left _ (by omega)]
    omega
  have hn2 : mkN n d = n' := by
    unfold mkN
    rw [← hgd]
    have hs : n = (g : Int) * n' := by
      have h3 : d = (g : Int) * d' := by rw [show d = ((g * d1 : Nat) : Int) by omega, Int.natCast_mul, e2]; congr 1; omega
      have h4 : n * d' = ((g : Int) * n') * d' := by rw [h, h3, Int.mul_left_comm, Int.mul_assoc]
      exact Int.eq_of_mul_eq_mul_right (by omega) h4
    rw [hs, Int.mul_tdiv_cancel_left _ (by omega)]
  exact ⟨hn2, hd2, by rw [mkB, hn2, hd2]; exact hf⟩
end Go.Proofs.YtohjbabjkjcddaaDoor
