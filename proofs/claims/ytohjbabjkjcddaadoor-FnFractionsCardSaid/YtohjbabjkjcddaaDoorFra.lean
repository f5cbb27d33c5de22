/- Fractions: pairs of them, compared and reckoned with. -/
import Derived.Test.YtohjbabjkjcddaaDoorFrw
namespace Go.Proofs.YtohjbabjkjcddaaDoor
open Go.RowKit

set_option maxHeartbeats 800000 in
theorem areFracs_any {a b c d : Int} (w : World) :
    Calls Tryd.prog 23 #[.agg #[.int .i64 a, .int .i64 b], .agg #[.int .i64 c, .int .i64 d]] w fun e w' => e = .returned (.bool (fracB a b && fracB c d)) ∧ Ext w w' := by
  obtain ⟨W, hW⟩ : ∃ W, W = (w.alloc (.cells #[.int .i64 a, .int .i64 b] 25)).alloc (.cells #[.int .i64 c, .int .i64 d] 25) := ⟨_, rfl⟩
  have eW : Ext w W := by rw [hW]; infer_instance
  have x0 : W.cell? ⟨w.heap.size, 0, none⟩ = some (.int .i64 a) := by rw [hW]; go_simp
  have x1 : W.cell? ⟨w.heap.size, 1, none⟩ = some (.int .i64 b) := by rw [hW]; go_simp
  have y0 : W.cell? ⟨w.heap.size + 1, 0, none⟩ = some (.int .i64 c) := by rw [hW]; go_simp
  have y1 : W.cell? ⟨w.heap.size + 1, 1, none⟩ = some (.int .i64 d) := by rw [hW]; go_simp
  cases h1 : fracB a b with
  | false =>
    go_enter Tryd.func23, Tryd.ntmps23
    go_upto_region 1 with fail
    rw [← hW]
    replace hW := hid hW
    go_wp2_with fail
    refine (IsFrac_any (n := a) (d := b) W).mono ?_
    rw [h1]
    rintro e w2 ⟨rfl, e2⟩
    go_wp2_with fail
    go_ret
    exact ⟨rfl, Ext.trans eW e2⟩
  | true =>
    go_enter Tryd.func23, Tryd.ntmps23
    go_upto_region 1 with fail
    rw [← hW]
    replace hW := hid hW
    go_wp2_with fail
    refine (IsFrac_any (n := a) (d := b) W).mono ?_
    rw [h1]
    rintro e w2 ⟨rfl, e2⟩
    have y0 := e2.cell y0
    have y1 := e2.cell y1
    go_wp2_with fail
    refine (IsFrac_any (n := c) (d := d) w2).mono ?_
    rintro e w3 ⟨rfl, e3⟩
    go_wp2_with fail
    go_ret
    exact ⟨by simp, Ext.trans eW (Ext.trans e2 e3)⟩
set_option maxHeartbeats 800000 in
theorem l2Two_any {a b c d : Int} (w : World) :
    Calls Tryd.prog 25 #[.agg #[.int .i64 a, .int .i64 b], .agg #[.int .i64 c, .int .i64 d]] w fun e w' => e = .returned (.bool (fracB a b && fracB c d)) ∧ Ext w w' := by
  obtain ⟨W, hW⟩ : ∃ W, W = (w.alloc (.cells #[.int .i64 a, .int .i64 b] 25)).alloc (.cells #[.int .i64 c, .int .i64 d] 25) := ⟨_, rfl⟩
  have eW : Ext w W := by rw [hW]; infer_instance
  have x0 : W.cell? ⟨w.heap.size, 0, none⟩ = some (.int .i64 a) := by rw [hW]; go_simp
  have x1 : W.cell? ⟨w.heap.size, 1, none⟩ = some (.int .i64 b) := by rw [hW]; go_simp
  have y0 : W.cell? ⟨w.heap.size + 1, 0, none⟩ = some (.int .i64 c) := by rw [hW]; go_simp
  have y1 : W.cell? ⟨w.heap.size + 1, 1, none⟩ = some (.int .i64 d) := by rw [hW]; go_simp
  cases h1 : fracB a b with
  | false =>
    go_enter Tryd.func25, Tryd.ntmps25
    go_upto_region 1 with fail
    rw [← hW]
    replace hW := hid hW
    go_wp2_with fail
    refine (l2Good_any (n := a) (d := b) W).mono ?_
    rw [h1]
    rintro e w2 ⟨rfl, e2⟩
    go_wp2_with fail
    go_ret
    exact ⟨rfl, Ext.trans eW e2⟩
  | true =>
    go_enter Tryd.func25, Tryd.ntmps25
    go_upto_region 1 with fail
    rw [← hW]
    replace hW := hid hW
    go_wp2_with fail
    refine (l2Good_any (n := a) (d := b) W).mono ?_
    rw [h1]
    rintro e w2 ⟨rfl, e2⟩
    have y0 := e2.cell y0
    have y1 := e2.cell y1
    go_wp2_with fail
    refine (l2Good_any (n := c) (d := d) w2).mono ?_
    rintro e w3 ⟨rfl, e3⟩
    go_wp2_with fail
    go_ret
    exact ⟨by simp, Ext.trans eW (Ext.trans e2 e3)⟩
theorem isNaN1_any (x : Int) (w : World) : Calls Tryd.prog 51 #[.int .i64 x] w fun e w' => e = .returned (.bool false) ∧ w = w' := by
  have h : (x != x) = false := by simp
  go_enter Tryd.func51, Tryd.ntmps51
  go_wp2
  go_ret
  exact ⟨rfl, rfl⟩
def cmp1 (x y : Int) : Int := if x < y then -1 else if y < x then 1 else 0
set_option maxHeartbeats 800000 in
theorem compare1_any (x y : Int) (w : World) : Calls Tryd.prog 43 #[.int .i64 x, .int .i64 y] w fun e w' => e = .returned (.int .i64 (cmp1 x y)) ∧ w = w' := by
  by_cases h1 : x < y
  · have hr := hid (show cmp1 x y = -1 by rw [cmp1, if_pos h1])
    go_enter Tryd.func43, Tryd.ntmps43
    go_wp2_with (go_at_call 51; refine (isNaN1_any _ _).mono ?_; rintro e w' ⟨rfl, rfl⟩)
    go_ret
    exact ⟨ret_int hr.out.symm, rfl⟩
  · by_cases h2 : y < x
    · have hr := hid (show cmp1 x y = 1 by rw [cmp1, if_neg h1, if_pos h2])
      go_enter Tryd.func43, Tryd.ntmps43
      go_wp2_with (go_at_call 51; refine (isNaN1_any _ _).mono ?_; rintro e w' ⟨rfl, rfl⟩)
      go_ret
      exact ⟨ret_int hr.out.symm, rfl⟩
    · have hr := hid (show cmp1 x y = 0 by rw [cmp1, if_neg h1, if_neg h2])
      go_enter Tryd.func43, Tryd.ntmps43
      go_wp2_with (go_at_call 51; refine (isNaN1_any _ _).mono ?_; rintro e w' ⟨rfl, rfl⟩)
      go_ret
      exact ⟨ret_int hr.out.symm, rfl⟩
theorem mul_in {a b : Int} (ha : -100000000 ≤ a ∧ a ≤ 100000000) (hb : 1 ≤ b ∧ b ≤ 100000) : -10000000000000 ≤ a * b ∧ a * b ≤ 10000000000000 := by
  have h1 : a * b ≤ 100000000 * b := Int.mul_le_mul_of_nonneg_right ha.2 (by omega)
  have h2 : (-100000000) * b ≤ a * b := Int.mul_le_mul_of_nonneg_right ha.1 (by omega)
  omega
set_option maxHeartbeats 800000 in
theorem compareFracs_any {a b c d : Int} (ha : fracB a b = true) (hc : fracB c d = true) (w : World) :
    Calls Tryd.prog 28 #[.agg #[.int .i64 a, .int .i64 b], .agg #[.int .i64 c, .int .i64 d]] w fun e w' => e = .returned (.int .i64 (cmp1 (a * d) (c * b))) ∧ Ext w w' := by
  have h1 := fracB_in ha
  have h2 := fracB_in hc
  have m1 := mul_in (a := a) (b := d) (by omega) (by omega)
  have m2 := mul_in (a := c) (b := b) (by omega) (by omega)
  obtain ⟨W, hW⟩ : ∃ W, W = (w.alloc (.cells #[.int .i64 a, .int .i64 b] 25)).alloc (.cells #[.int .i64 c, .int .i64 d] 25) := ⟨_, rfl⟩
  have eW : Ext w W := by rw [hW]; infer_instance
  have x0 : W.cell? ⟨w.heap.size, 0, none⟩ = some (.int .i64 a) := by rw [hW]; go_simp
  have x1 : W.cell? ⟨w.heap.size, 1, none⟩ = some (.int .i64 b) := by rw [hW]; go_simp
  have y0 : W.cell? ⟨w.heap.size + 1, 0, none⟩ = some (.int .i64 c) := by rw [hW]; go_simp
  have y1 : W.cell? ⟨w.heap.size + 1, 1, none⟩ = some (.int .i64 d) := by rw [hW]; go_simp
  go_enter Tryd.func28, Tryd.ntmps28
  go_upto_region 1 with fail
  rw [← hW]
  replace hW := hid hW
  go_wp2_with fail
  refine (compare1_any (a * d) (c * b) W).mono ?_
  rintro e w2 ⟨rfl, rfl⟩
  go_wp2_with fail
  go_ret
  exact ⟨rfl, eW⟩
def fcB (a b c d : Int) : Bool := fracB a b && fracB c d
def fcV (a b c d : Int) : Int := if fcB a b c d then cmp1 (a * d) (c * b) else 0
set_option maxHeartbeats 800000 in
theorem CompareFracs_any {a b c d : Int} (w : World) :
    Calls Tryd.prog 12 #[.agg #[.int .i64 a, .int .i64 b], .agg #[.int .i64 c, .int .i64 d]] w fun e w' => e = .returned (.tuple #[.int .i64 (fcV a b c d), .bool (fcB a b c d)]) ∧ Ext w w' := by
  obtain ⟨W, hW⟩ : ∃ W, W = (w.alloc (.cells #[.int .i64 a, .int .i64 b] 25)).alloc (.cells #[.int .i64 c, .int .i64 d] 25) := ⟨_, rfl⟩
  have eW : Ext w W := by rw [hW]; infer_instance
  have x0 : W.cell? ⟨w.heap.size, 0, none⟩ = some (.int .i64 a) := by rw [hW]; go_simp
  have x1 : W.cell? ⟨w.heap.size, 1, none⟩ = some (.int .i64 b) := by rw [hW]; go_simp
  have y0 : W.cell? ⟨w.heap.size + 1, 0, none⟩ = some (.int .i64 c) := by rw [hW]; go_simp
  have y1 : W.cell? ⟨w.heap.size + 1, 1, none⟩ = some (.int .i64 d) := by rw [hW]; go_simp
  cases hb : fcB a b c d with
  | false =>
    have hv := hid (show fcV a b c d = 0 by rw [fcV, hb]; rfl)
    go_enter Tryd.func12, Tryd.ntmps12
    go_upto_region 1 with fail
    rw [← hW]
    replace hW := hid hW
    go_wp2_with fail
    refine (areFracs_any (a := a) (b := b) (c := c) (d := d) W).mono ?_
    rw [show (fracB a b && fracB c d) = false from hb]
    rintro e w2 ⟨rfl, e2⟩
    go_wp2_with fail
    go_ret2
    rw [hv.out]
    exact ⟨rfl, Ext.trans eW e2⟩
  | true =>
    have hv := hid (show fcV a b c d = cmp1 (a * d) (c * b) by rw [fcV, hb]; rfl)
    have h2 := hb
    unfold fcB at h2
    rw [Bool.and_eq_true] at h2
    replace h2 := hid h2
    go_enter Tryd.func12, Tryd.ntmps12
    go_upto_region 1 with fail
    rw [← hW]
    replace hW := hid hW
    go_wp2_with fail
    refine (areFracs_any (a := a) (b := b) (c := c) (d := d) W).mono ?_
    rw [show (fracB a b && fracB c d) = true from hb]
    rintro e w2 ⟨rfl, e2⟩
    have x0 := e2.cell x0
    have x1 := e2.cell x1
    have y0 := e2.cell y0
    have y1 := e2.cell y1
    go_wp2_with fail
    refine (compareFracs_any h2.out.1 h2.out.2 w2).mono ?_
    rintro e w3 ⟨rfl, e3⟩
    go_wp2_with fail
    go_ret2
    rw [hv.out]
    exact ⟨rfl, Ext.trans eW (Ext.trans e2 e3)⟩
set_option maxHeartbeats 800000 in
theorem FloorFrac_any {n d : Int} (h : fracB n d = true) (w : World) :
    Calls Tryd.prog 16 #[.agg #[.int .i64 n, .int .i64 d]] w fun e w' => e = .returned (.tuple #[.int .i64 (n / d), .bool true]) ∧ Ext w w' := by
  have hb := fracB_in h
  obtain ⟨W, hW⟩ : ∃ W, W = w.alloc (.cells #[.int .i64 n, .int .i64 d] 25) := ⟨_, rfl⟩
  have eW : Ext w W := by rw [hW]; infer_instance
  have x0 : W.cell? ⟨w.heap.size, 0, none⟩ = some (.int .i64 n) := by rw [hW]; go_simp
  have x1 : W.cell? ⟨w.heap.size, 1, none⟩ = some (.int .i64 d) := by rw [hW]; go_simp
  have hf := fun (u : World) => floorDiv_any (n := n) (d := d) (by omega) (by omega) (by omega) (by omega) u
  obtain ⟨q, hq⟩ : ∃ q, q = n / d := ⟨_, rfl⟩
  have hqb : -200000000 ≤ q ∧ q ≤ 200000000 := by
    rw [hq]
    have h1 := Int.mul_ediv_add_emod n d
    have h2 := Int.emod_nonneg n (show d ≠ 0 by omega)
    have h3 := Int.natAbs_ediv_le_natAbs n d
    omega
  rw [← hq] at hf ⊢
  replace hf := hid hf
  replace hq := hid hq
  go_enter Tryd.func16, Tryd.ntmps16
  go_upto_region 1 with fail
  rw [← hW]
  replace hW := hid hW
  go_wp2_with fail
  refine (IsFrac_any (n := n) (d := d) W).mono ?_
  rw [h]
  rintro e w2 ⟨rfl, e2⟩
  have x0 := e2.cell x0
  have x1 := e2.cell x1
  go_wp2_with fail
  refine (hf.out w2).mono ?_
  rintro e w3 ⟨rfl, rfl⟩
  go_wp2_with fail
  go_ret2
  exact ⟨rfl, Ext.trans eW e2⟩
set_option maxHeartbeats 800000 in
theorem CeilFrac_any {n d : Int} (h : fracB n d = true) (w : World) :
    Calls Tryd.prog 17 #[.agg #[.int .i64 n, .int .i64 d]] w fun e w' => e = .returned (.tuple #[.int .i64 (-((-n) / d)), .bool true]) ∧ Ext w w' := by
  have hb := fracB_in h
  obtain ⟨W, hW⟩ : ∃ W, W = w.alloc (.cells #[.int .i64 n, .int .i64 d] 25) := ⟨_, rfl⟩
  have eW : Ext w W := by rw [hW]; infer_instance
  have x0 : W.cell? ⟨w.heap.size, 0, none⟩ = some (.int .i64 n) := by rw [hW]; go_simp
  have x1 : W.cell? ⟨w.heap.size, 1, none⟩ = some (.int .i64 d) := by rw [hW]; go_simp
  have hf := fun (u : World) => floorDiv_any (n := (-n)) (d := d) (by omega) (by omega) (by omega) (by omega) u
  obtain ⟨q, hq⟩ : ∃ q, q = (-n) / d := ⟨_, rfl⟩
  have hqb : -200000000 ≤ q ∧ q ≤ 200000000 := by
    rw [hq]
    have h1 := Int.mul_ediv_add_emod (-n) d
    have h2 := Int.emod_nonneg (-n) (show d ≠ 0 by omega)
    have h3 := Int.natAbs_ediv_le_natAbs (-n) d
    omega
  rw [← hq] at hf ⊢
  replace hf := hid hf
  replace hq := hid hq
  go_enter Tryd.func17, Tryd.ntmps17
  go_upto_region 1 with fail
  rw [← hW]
  replace hW := hid hW
  go_wp2_with fail
  refine (IsFrac_any (n := n) (d := d) W).mono ?_
  rw [h]
  rintro e w2 ⟨rfl, e2⟩
  have x0 := e2.cell x0
  have x1 := e2.cell x1
  go_wp2_with fail
  refine (hf.out w2).mono ?_
  rintro e w3 ⟨rfl, rfl⟩
  go_wp2_with fail
  go_ret2
  exact ⟨rfl, Ext.trans eW e2⟩

end Go.Proofs.YtohjbabjkjcddaaDoor
