/- Fractions: quotients rounded down, of the program and of the reference. -/
import Derived.Test.YtohjbabjkjcddaaDoorFbt
namespace Go.Proofs.YtohjbabjkjcddaaDoor
open Go.RowKit

theorem floor_t {n d : Int} (hd : 0 < d) : n / d = if n.tmod d < 0 then n.tdiv d - 1 else n.tdiv d := by
  have h2 := Int.mul_ediv_add_emod n d
  have h3 := Int.emod_nonneg n (show d ≠ 0 by omega)
  have h4 := Int.emod_lt_of_pos n hd
  by_cases hn : 0 ≤ n
  · have e1 := Int.tdiv_eq_ediv_of_nonneg (b := d) hn
    have e2 := Int.tmod_eq_emod_of_nonneg (b := d) hn
    rw [e1, e2, if_neg (by omega)]
  · have e3 : n.tmod d = -((-n) % d) := by
      have h := Int.neg_tmod (a := -n) (b := d)
      rw [Int.neg_neg, Int.tmod_eq_emod_of_nonneg (a := -n) (b := d) (by omega)] at h
      exact h
    have e4 : n.tdiv d = -((-n) / d) := by
      have h := Int.neg_tdiv (a := -n) (b := d)
      rw [Int.neg_neg, Int.tdiv_eq_ediv_of_nonneg (a := -n) (b := d) (by omega)] at h
      exact h
    have h5 := Int.mul_ediv_add_emod (-n) d
    have h6 := Int.emod_nonneg (-n) (show d ≠ 0 by omega)
    have h7 := Int.emod_lt_of_pos (-n) hd
    rw [e3, e4]
    split
    · have : n = d * (-((-n) / d) - 1) + (d - (-n) % d) := by rw [Int.mul_sub, Int.mul_neg]; omega
      exact (Int.ediv_eq_iff_of_pos hd).2 ⟨by rw [Int.mul_comm]; omega, by rw [Int.mul_comm]; omega⟩
    · have hz : (-n) % d = 0 := by omega
      have : n = d * (-((-n) / d)) := by rw [Int.mul_neg]; omega
      exact (Int.ediv_eq_iff_of_pos hd).2 ⟨by rw [Int.mul_comm]; omega, by rw [Int.mul_comm]; omega⟩
set_option maxHeartbeats 800000 in
theorem floorDiv_any {n d : Int} (h0 : -1000000000000000 ≤ n) (h1 : n ≤ 1000000000000000) (h2 : 1 ≤ d) (h3 : d ≤ 1000000000000000) (w : World) :
    Calls Tryd.prog 35 #[.int .i64 n, .int .i64 d] w fun e w' => e = .returned (.int .i64 (n / d)) ∧ w' = w := by
  have hf := floor_t (n := n) (d := d) (by omega)
  have hq : -1000000000000000 ≤ n.tdiv d ∧ n.tdiv d ≤ 1000000000000000 := by
    have h := Int.natAbs_tdiv_le_natAbs n d
    omega
  obtain ⟨q, hqe⟩ : ∃ q, q = n.tdiv d := ⟨_, rfl⟩
  obtain ⟨r, hre⟩ : ∃ r, r = n.tmod d := ⟨_, rfl⟩
  rw [← hqe] at hf hq
  rw [← hre] at hf
  have hqd : n.tdiv d = q := hqe.symm
  have hrd : n.tmod d = r := hre.symm
  have hd0 : ¬ d = 0 := by omega
  have hw : wrap64 q = q := by unfold wrap64; omega
  replace hqe := hid hqe
  replace hre := hid hre
  by_cases hr : r < 0
  · have hv : n / d = q - 1 := by rw [hf, if_pos hr]
    replace hf := hid hf
    replace hv := hid hv
    go_enter Tryd.func35, Tryd.ntmps35
    go_wp2_with fail
    go_ret
    exact ⟨by rw [hv.out]; rfl, rfl⟩
  · have hv : n / d = q := by rw [hf, if_neg hr]
    replace hf := hid hf
    replace hv := hid hv
    go_enter Tryd.func35, Tryd.ntmps35
    go_wp2_with fail
    go_ret
    exact ⟨by rw [hv.out]; rfl, rfl⟩
theorem floor_neg {n d : Int} (hd : 0 < d) (_hn : n < 0) : n / d = -((-n + d - 1) / d) := by
  have h2 := Int.mul_ediv_add_emod (-n + d - 1) d
  have h3 := Int.emod_nonneg (-n + d - 1) (show d ≠ 0 by omega)
  have h4 := Int.emod_lt_of_pos (-n + d - 1) hd
  refine (Int.ediv_eq_iff_of_pos hd).2 ⟨?_, ?_⟩
  · rw [Int.neg_mul, Int.mul_comm]; omega
  · rw [Int.neg_mul, Int.mul_comm]; omega
set_option maxHeartbeats 800000 in
theorem l2Floor_any {n d : Int} (h0 : -1000000000000000 ≤ n) (h1 : n ≤ 1000000000000000) (h2 : 1 ≤ d) (h3 : d ≤ 1000000000000000) (w : World) :
    Calls Tryd.prog 38 #[.int .i64 n, .int .i64 d] w fun e w' => e = .returned (.int .i64 (n / d)) ∧ w' = w := by
  have hd0 : ¬ d = 0 := by omega
  by_cases hn : 0 ≤ n
  · obtain ⟨q, hqe⟩ : ∃ q, q = n / d := ⟨_, rfl⟩
    have hqd : n.tdiv d = q := by rw [hqe]; exact Int.tdiv_eq_ediv_of_nonneg hn
    have hq : 0 ≤ q ∧ q ≤ 1000000000000000 := by
      rw [hqe]
      exact ⟨Int.ediv_nonneg hn (by omega), Int.le_trans (Int.ediv_le_self d hn) h1⟩
    have hw : wrap64 q = q := by unfold wrap64; omega
    rw [← hqe]
    replace hqe := hid hqe
    go_enter Tryd.func38, Tryd.ntmps38
    go_wp2_with fail
    go_ret
    exact ⟨rfl, rfl⟩
  · have hf := floor_neg (n := n) (d := d) (by omega) (by omega)
    obtain ⟨q, hqe⟩ : ∃ q, q = (-n + d - 1) / d := ⟨_, rfl⟩
    have hqd : (-n + d - 1).tdiv d = q := by rw [hqe]; exact Int.tdiv_eq_ediv_of_nonneg (by omega)
    have hq : 0 ≤ q ∧ q ≤ 2000000000000000 := by
      rw [hqe]
      exact ⟨Int.ediv_nonneg (by omega) (by omega), Int.le_trans (Int.ediv_le_self d (by omega)) (by omega)⟩
    have hw : wrap64 q = q := by unfold wrap64; omega
    rw [← hqe] at hf
    rw [hf]
    replace hqe := hid hqe
    replace hf := hid hf
    go_enter Tryd.func38, Tryd.ntmps38
    go_wp2_with fail
    go_ret
    exact ⟨rfl, rfl⟩
end Go.Proofs.YtohjbabjkjcddaaDoor
