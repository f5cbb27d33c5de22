/- Fractions: products and quotients of the program, sums and products of the reference, MakeFrac. -/
import Derived.Test.YtohjbabjkjcddaaDoorFlp
namespace Go.Proofs.YtohjbabjkjcddaaDoor
open Go.RowKit

theorem mul_in2 {a b : Int} (ha : -100000000 ≤ a ∧ a ≤ 100000000) (hb : -100000000 ≤ b ∧ b ≤ 100000000) : -10000000000000000 ≤ a * b ∧ a * b ≤ 10000000000000000 := by
  by_cases h : 0 ≤ b
  · have h1 : a * b ≤ 100000000 * b := Int.mul_le_mul_of_nonneg_right ha.2 h
    have h2 : (-100000000) * b ≤ a * b := Int.mul_le_mul_of_nonneg_right ha.1 h
    omega
  · have h1 : a * (-b) ≤ 100000000 * (-b) := Int.mul_le_mul_of_nonneg_right ha.2 (by omega)
    have h2 : (-100000000) * (-b) ≤ a * (-b) := Int.mul_le_mul_of_nonneg_right ha.1 (by omega)
    have e := Int.mul_neg a b
    rw [e] at h1 h2
    omega
set_option maxHeartbeats 1600000 in
theorem implMul_any {a b c d : Int} (w : World) :
    Calls Tryd.prog 8 #[.agg #[.int .i64 a, .int .i64 b], .agg #[.int .i64 c, .int .i64 d]] w fun e w' => e = .returned (.tuple #[.agg #[.int .i64 (afN a b c d (a * c) (b * d)), .int .i64 (afD a b c d (a * c) (b * d))], .bool (afB a b c d (a * c) (b * d))]) ∧ Ext w w' := by
  obtain ⟨W, hW⟩ : ∃ W, W = ((w.alloc (.cells #[.int .i64 a, .int .i64 b] 25)).alloc (.cells #[.int .i64 c, .int .i64 d] 25)).alloc (.cells #[.int .i64 0, .int .i64 0] 25) := ⟨_, rfl⟩
  have eW : Ext w W := by rw [hW]; infer_instance
  have x0 : W.cell? ⟨w.heap.size, 0, none⟩ = some (.int .i64 a) := by rw [hW]; go_simp
  have x1 : W.cell? ⟨w.heap.size, 1, none⟩ = some (.int .i64 b) := by rw [hW]; go_simp
  have y0 : W.cell? ⟨w.heap.size + 1, 0, none⟩ = some (.int .i64 c) := by rw [hW]; go_simp
  have y1 : W.cell? ⟨w.heap.size + 1, 1, none⟩ = some (.int .i64 d) := by rw [hW]; go_simp
  have z0 : W.cell? ⟨w.heap.size + 1 + 1, 0, none⟩ = some (.int .i64 0) := by rw [hW]; go_simp
  have z1 : W.cell? ⟨w.heap.size + 1 + 1, 1, none⟩ = some (.int .i64 0) := by rw [hW]; go_simp
  have f0 : W.frozen? ⟨w.heap.size + 1 + 1, 0, none⟩ = false := by rw [hW]; go_simp
  have f1 : W.frozen? ⟨w.heap.size + 1 + 1, 1, none⟩ = false := by rw [hW]; go_simp
  cases hb : fcB a b c d with
  | false =>
    have hv := hid (show afB a b c d (a * c) (b * d) = false by rw [afB, hb]; rfl)
    have hn := hid (show afN a b c d (a * c) (b * d) = 0 by rw [afN, hb]; rfl)
    have hm := hid (show afD a b c d (a * c) (b * d) = 0 by rw [afD, hb]; rfl)
    go_enter Tryd.func8, Tryd.ntmps8
    go_upto_region 1 with fail
    rw [← hW]
    replace hW := hid hW
    go_wp2_with fail
    refine (areFracs_any (a := a) (b := b) (c := c) (d := d) W).mono ?_
    rw [show (fracB a b && fracB c d) = false from hb]
    rintro e w2 ⟨rfl, e2⟩
    have r0 := e2.cell z0
    have r1 := e2.cell z1
    have rf0 := e2.frozen z0 f0
    have rf1 := e2.frozen z1 f1
    go_wp2_with fail
    refine bodyPost_ret (v := .tuple #[.agg #[.int .i64 0, .int .i64 0], .bool false]) (by simp [results, Tryd.results8, go_sem, r0, r1]) rfl ?_
    refine ⟨by rw [hv.out, hn.out, hm.out], ?_⟩
    exact @Ext.set _ _ (@Ext.set _ _ (Ext.trans eW e2) ⟨w.heap.size + 1 + 1, 0, none⟩ (by show _ ≤ w.heap.size + 1 + 1; omega) _) ⟨w.heap.size + 1 + 1, 1, none⟩ (by show _ ≤ w.heap.size + 1 + 1; omega) _
  | true =>
    have h2 := hb
    unfold fcB at h2
    rw [Bool.and_eq_true] at h2
    have q1 := fracB_in h2.1
    have q2 := fracB_in h2.2
    have m1 := mul_in (a := a) (b := d) (by omega) (by omega)
    have m2 := mul_in (a := c) (b := b) (by omega) (by omega)
    have m3 := mul_in (a := b) (b := d) (by omega) (by omega)
    have m4 : 1 ≤ b * d := Int.le_trans (show 1 ≤ b by omega) (by have := Int.mul_le_mul_of_nonneg_left (show 1 ≤ d by omega) (show 0 ≤ b by omega); omega)
    have m5 := mul_in2 (a := a) (b := c) (by omega) (by omega)
    have hM := fun (u : World) => makeFrac_any (n := a * c) (d := b * d) (by omega) (by omega) (by omega) (by omega) u
    obtain ⟨rn, hrn⟩ : ∃ q, q = mrN ((a * c)) ((b * d)) := ⟨_, rfl⟩
    obtain ⟨rd, hrd⟩ : ∃ q, q = mrD ((a * c)) ((b * d)) := ⟨_, rfl⟩
    obtain ⟨rb, hrb⟩ : ∃ q, q = mkB ((a * c)) ((b * d)) := ⟨_, rfl⟩
    rw [mkA_eq, ← hrn, ← hrd, ← hrb] at hM
    have hv := hid (show afB a b c d ((a * c)) ((b * d)) = rb by rw [afB, hb, hrb]; rfl)
    have hn := hid (show afN a b c d ((a * c)) ((b * d)) = rn by rw [afN, hb, hrn]; rfl)
    have hm := hid (show afD a b c d ((a * c)) ((b * d)) = rd by rw [afD, hb, hrd]; rfl)
    replace hM := hid hM
    replace hrn := hid hrn
    replace hrd := hid hrd
    replace hrb := hid hrb
    go_enter Tryd.func8, Tryd.ntmps8
    go_upto_region 1 with fail
    rw [← hW]
    replace hW := hid hW
    go_wp2_with fail
    refine (areFracs_any (a := a) (b := b) (c := c) (d := d) W).mono ?_
    rw [show (fracB a b && fracB c d) = true from hb]
    rintro e w2 ⟨rfl, e2⟩
    have x0 := e2.cell x0
    have x1 := e2.cell x1
    have y0 := e2.cell y0
    have y1 := e2.cell y1
    have r0 := e2.cell z0
    have r1 := e2.cell z1
    have rf0 := e2.frozen z0 f0
    have rf1 := e2.frozen z1 f1
    go_wp2_with fail
    refine (hM.out w2).mono ?_
    rintro e w3 ⟨rfl, e3⟩
    have s0 := e3.cell r0
    have s1 := e3.cell r1
    have sf0 := e3.frozen r0 rf0
    have sf1 := e3.frozen r1 rf1
    go_wp2_with fail
    refine bodyPost_ret (v := .tuple #[.agg #[.int .i64 rn, .int .i64 rd], .bool rb]) (by simp [results, Tryd.results8, go_sem, s0, s1]) rfl ?_
    refine ⟨by rw [hv.out, hn.out, hm.out], ?_⟩
    exact @Ext.set _ _ (@Ext.set _ _ (Ext.trans eW (Ext.trans e2 e3)) ⟨w.heap.size + 1 + 1, 0, none⟩ (by show _ ≤ w.heap.size + 1 + 1; omega) _) ⟨w.heap.size + 1 + 1, 1, none⟩ (by show _ ≤ w.heap.size + 1 + 1; omega) _
set_option maxHeartbeats 1600000 in
theorem l2Add_any {a b c d : Int} (hb : fcB a b c d = true) (w : World) :
    Calls Tryd.prog 26 #[.agg #[.int .i64 a, .int .i64 b], .agg #[.int .i64 c, .int .i64 d]] w fun e w' => e = .returned (.tuple #[mkA (a * d + c * b) (b * d), .bool (mkB (a * d + c * b) (b * d))]) ∧ Ext w w' := by
  obtain ⟨W, hW⟩ : ∃ W, W = ((w.alloc (.cells #[.int .i64 a, .int .i64 b] 25)).alloc (.cells #[.int .i64 c, .int .i64 d] 25)).alloc (.cells #[.int .i64 0, .int .i64 0] 25) := ⟨_, rfl⟩
  have eW : Ext w W := by rw [hW]; infer_instance
  have x0 : W.cell? ⟨w.heap.size, 0, none⟩ = some (.int .i64 a) := by rw [hW]; go_simp
  have x1 : W.cell? ⟨w.heap.size, 1, none⟩ = some (.int .i64 b) := by rw [hW]; go_simp
  have y0 : W.cell? ⟨w.heap.size + 1, 0, none⟩ = some (.int .i64 c) := by rw [hW]; go_simp
  have y1 : W.cell? ⟨w.heap.size + 1, 1, none⟩ = some (.int .i64 d) := by rw [hW]; go_simp
  have z0 : W.cell? ⟨w.heap.size + 1 + 1, 0, none⟩ = some (.int .i64 0) := by rw [hW]; go_simp
  have z1 : W.cell? ⟨w.heap.size + 1 + 1, 1, none⟩ = some (.int .i64 0) := by rw [hW]; go_simp
  have f0 : W.frozen? ⟨w.heap.size + 1 + 1, 0, none⟩ = false := by rw [hW]; go_simp
  have f1 : W.frozen? ⟨w.heap.size + 1 + 1, 1, none⟩ = false := by rw [hW]; go_simp
  have hf := hb
  unfold fcB at hf
  rw [Bool.and_eq_true] at hf
  have q1 := fracB_in hf.1
  have q2 := fracB_in hf.2
  have m1 := mul_in (a := a) (b := d) (by omega) (by omega)
  have m2 := mul_in (a := c) (b := b) (by omega) (by omega)
  have m3 := mul_in (a := b) (b := d) (by omega) (by omega)
  have m4 := den_pos hf.1 hf.2
  have m5 := mul_in2 (a := a) (b := c) (by omega) (by omega)
  have hM := fun (u : World) => l2Make_any (n := (a * d + c * b)) (d := (b * d)) (by omega) (by omega) (by omega) (by omega) u
  obtain ⟨rn, hrn⟩ : ∃ q, q = mrN ((a * d + c * b)) ((b * d)) := ⟨_, rfl⟩
  obtain ⟨rd, hrd⟩ : ∃ q, q = mrD ((a * d + c * b)) ((b * d)) := ⟨_, rfl⟩
  obtain ⟨rb, hrb⟩ : ∃ q, q = mkB ((a * d + c * b)) ((b * d)) := ⟨_, rfl⟩
  rw [mkA_eq, ← hrn, ← hrd, ← hrb] at hM ⊢
  replace hM := hid hM
  replace hrn := hid hrn
  replace hrd := hid hrd
  replace hrb := hid hrb
  go_enter Tryd.func26, Tryd.ntmps26
  go_upto_region 1 with fail
  rw [← hW]
  replace hW := hid hW
  go_wp2_with fail
  refine (hM.out W).mono ?_
  rintro e w3 ⟨rfl, e3⟩
  have s0 := e3.cell z0
  have s1 := e3.cell z1
  have sf0 := e3.frozen z0 f0
  have sf1 := e3.frozen z1 f1
  go_wp2_with fail
  refine bodyPost_ret (v := .tuple #[.agg #[.int .i64 rn, .int .i64 rd], .bool rb]) (by simp [results, Tryd.results26, go_sem, s0, s1]) rfl ?_
  refine ⟨rfl, ?_⟩
  exact @Ext.set _ _ (@Ext.set _ _ (Ext.trans eW e3) ⟨w.heap.size + 1 + 1, 0, none⟩ (by show _ ≤ w.heap.size + 1 + 1; omega) _) ⟨w.heap.size + 1 + 1, 1, none⟩ (by show _ ≤ w.heap.size + 1 + 1; omega) _
set_option maxHeartbeats 1600000 in
theorem l2Mul_any {a b c d : Int} (hb : fcB a b c d = true) (w : World) :
    Calls Tryd.prog 27 #[.agg #[.int .i64 a, .int .i64 b], .agg #[.int .i64 c, .int .i64 d]] w fun e w' => e = .returned (.tuple #[mkA (a * c) (b * d), .bool (mkB (a * c) (b * d))]) ∧ Ext w w' := by
  obtain ⟨W, hW⟩ : ∃ W, W = ((w.alloc (.cells #[.int .i64 a, .int .i64 b] 25)).alloc (.cells #[.int .i64 c, .int .i64 d] 25)).alloc (.cells #[.int .i64 0, .int .i64 0] 25) := ⟨_, rfl⟩
  have eW : Ext w W := by rw [hW]; infer_instance
  have x0 : W.cell? ⟨w.heap.size, 0, none⟩ = some (.int .i64 a) := by rw [hW]; go_simp
  have x1 : W.cell? ⟨w.heap.size, 1, none⟩ = some (.int .i64 b) := by rw [hW]; go_simp
  have y0 : W.cell? ⟨w.heap.size + 1, 0, none⟩ = some (.int .i64 c) := by rw [hW]; go_simp
  have y1 : W.cell? ⟨w.heap.size + 1, 1, none⟩ = some (.int .i64 d) := by rw [hW]; go_simp
  have z0 : W.cell? ⟨w.heap.size + 1 + 1, 0, none⟩ = some (.int .i64 0) := by rw [hW]; go_simp
  have z1 : W.cell? ⟨w.heap.size + 1 + 1, 1, none⟩ = some (.int .i64 0) := by rw [hW]; go_simp
  have f0 : W.frozen? ⟨w.heap.size + 1 + 1, 0, none⟩ = false := by rw [hW]; go_simp
  have f1 : W.frozen? ⟨w.heap.size + 1 + 1, 1, none⟩ = false := by rw [hW]; go_simp
  have hf := hb
  unfold fcB at hf
  rw [Bool.and_eq_true] at hf
  have q1 := fracB_in hf.1
  have q2 := fracB_in hf.2
  have m1 := mul_in (a := a) (b := d) (by omega) (by omega)
  have m2 := mul_in (a := c) (b := b) (by omega) (by omega)
  have m3 := mul_in (a := b) (b := d) (by omega) (by omega)
  have m4 := den_pos hf.1 hf.2
  have m5 := mul_in2 (a := a) (b := c) (by omega) (by omega)
  have hM := fun (u : World) => l2Make_any (n := (a * c)) (d := (b * d)) (by omega) (by omega) (by omega) (by omega) u
  obtain ⟨rn, hrn⟩ : ∃ q, q = mrN ((a * c)) ((b * d)) := ⟨_, rfl⟩
  obtain ⟨rd, hrd⟩ : ∃ q, q = mrD ((a * c)) ((b * d)) := ⟨_, rfl⟩
  obtain ⟨rb, hrb⟩ : ∃ q, q = mkB ((a * c)) ((b * d)) := ⟨_, rfl⟩
  rw [mkA_eq, ← hrn, ← hrd, ← hrb] at hM ⊢
  replace hM := hid hM
  replace hrn := hid hrn
  replace hrd := hid hrd
  replace hrb := hid hrb
  go_enter Tryd.func27, Tryd.ntmps27
  go_upto_region 1 with fail
  rw [← hW]
  replace hW := hid hW
  go_wp2_with fail
  refine (hM.out W).mono ?_
  rintro e w3 ⟨rfl, e3⟩
  have s0 := e3.cell z0
  have s1 := e3.cell z1
  have sf0 := e3.frozen z0 f0
  have sf1 := e3.frozen z1 f1
  go_wp2_with fail
  refine bodyPost_ret (v := .tuple #[.agg #[.int .i64 rn, .int .i64 rd], .bool rb]) (by simp [results, Tryd.results27, go_sem, s0, s1]) rfl ?_
  refine ⟨rfl, ?_⟩
  exact @Ext.set _ _ (@Ext.set _ _ (Ext.trans eW e3) ⟨w.heap.size + 1 + 1, 0, none⟩ (by show _ ≤ w.heap.size + 1 + 1; omega) _) ⟨w.heap.size + 1 + 1, 1, none⟩ (by show _ ≤ w.heap.size + 1 + 1; omega) _
set_option maxHeartbeats 1600000 in
theorem specAdd_any {a b c d : Int} (w : World) :
    Calls Tryd.prog 7 #[.agg #[.int .i64 a, .int .i64 b], .agg #[.int .i64 c, .int .i64 d]] w fun e w' => e = .returned (.tuple #[.agg #[.int .i64 (afN a b c d (a * d + c * b) (b * d)), .int .i64 (afD a b c d (a * d + c * b) (b * d))], .bool (afB a b c d (a * d + c * b) (b * d))]) ∧ Ext w w' := by
  obtain ⟨W, hW⟩ : ∃ W, W = ((w.alloc (.cells #[.int .i64 a, .int .i64 b] 25)).alloc (.cells #[.int .i64 c, .int .i64 d] 25)).alloc (.cells #[.int .i64 0, .int .i64 0] 25) := ⟨_, rfl⟩
  have eW : Ext w W := by rw [hW]; infer_instance
  have x0 : W.cell? ⟨w.heap.size, 0, none⟩ = some (.int .i64 a) := by rw [hW]; go_simp
  have x1 : W.cell? ⟨w.heap.size, 1, none⟩ = some (.int .i64 b) := by rw [hW]; go_simp
  have y0 : W.cell? ⟨w.heap.size + 1, 0, none⟩ = some (.int .i64 c) := by rw [hW]; go_simp
  have y1 : W.cell? ⟨w.heap.size + 1, 1, none⟩ = some (.int .i64 d) := by rw [hW]; go_simp
  have z0 : W.cell? ⟨w.heap.size + 1 + 1, 0, none⟩ = some (.int .i64 0) := by rw [hW]; go_simp
  have z1 : W.cell? ⟨w.heap.size + 1 + 1, 1, none⟩ = some (.int .i64 0) := by rw [hW]; go_simp
  have f0 : W.frozen? ⟨w.heap.size + 1 + 1, 0, none⟩ = false := by rw [hW]; go_simp
  have f1 : W.frozen? ⟨w.heap.size + 1 + 1, 1, none⟩ = false := by rw [hW]; go_simp
  cases hb : fcB a b c d with
  | false =>
    have hv := hid (show afB a b c d (a * d + c * b) (b * d) = false by rw [afB, hb]; rfl)
    have hn := hid (show afN a b c d (a * d + c * b) (b * d) = 0 by rw [afN, hb]; rfl)
    have hm := hid (show afD a b c d (a * d + c * b) (b * d) = 0 by rw [afD, hb]; rfl)
    go_enter Tryd.func7, Tryd.ntmps7
    go_upto_region 1 with fail
    rw [← hW]
    replace hW := hid hW
    go_wp2_with fail
    refine (l2Two_any (a := a) (b := b) (c := c) (d := d) W).mono ?_
    rw [show (fracB a b && fracB c d) = false from hb]
    rintro e w2 ⟨rfl, e2⟩
    have r0 := e2.cell z0
    have r1 := e2.cell z1
    have rf0 := e2.frozen z0 f0
    have rf1 := e2.frozen z1 f1
    go_wp2_with fail
    refine bodyPost_ret (v := .tuple #[.agg #[.int .i64 0, .int .i64 0], .bool false]) (by simp [results, Tryd.results7, go_sem, r0, r1]) rfl ?_
    refine ⟨by rw [hv.out, hn.out, hm.out], ?_⟩
    exact @Ext.set _ _ (@Ext.set _ _ (Ext.trans eW e2) ⟨w.heap.size + 1 + 1, 0, none⟩ (by show _ ≤ w.heap.size + 1 + 1; omega) _) ⟨w.heap.size + 1 + 1, 1, none⟩ (by show _ ≤ w.heap.size + 1 + 1; omega) _
  | true =>
    have h2 := hb
    unfold fcB at h2
    rw [Bool.and_eq_true] at h2
    have q1 := fracB_in h2.1
    have q2 := fracB_in h2.2
    have m1 := mul_in (a := a) (b := d) (by omega) (by omega)
    have m2 := mul_in (a := c) (b := b) (by omega) (by omega)
    have m3 := mul_in (a := b) (b := d) (by omega) (by omega)
    have m4 : 1 ≤ b * d := Int.le_trans (show 1 ≤ b by omega) (by have := Int.mul_le_mul_of_nonneg_left (show 1 ≤ d by omega) (show 0 ≤ b by omega); omega)
    have m5 := mul_in2 (a := a) (b := c) (by omega) (by omega)
    have hM := fun (u : World) => l2Add_any hb u
    obtain ⟨rn, hrn⟩ : ∃ q, q = mrN ((a * d + c * b)) ((b * d)) := ⟨_, rfl⟩
    obtain ⟨rd, hrd⟩ : ∃ q, q = mrD ((a * d + c * b)) ((b * d)) := ⟨_, rfl⟩
    obtain ⟨rb, hrb⟩ : ∃ q, q = mkB ((a * d + c * b)) ((b * d)) := ⟨_, rfl⟩
    rw [mkA_eq, ← hrn, ← hrd, ← hrb] at hM
    have hv := hid (show afB a b c d ((a * d + c * b)) ((b * d)) = rb by rw [afB, hb, hrb]; rfl)
    have hn := hid (show afN a b c d ((a * d + c * b)) ((b * d)) = rn by rw [afN, hb, hrn]; rfl)
    have hm := hid (show afD a b c d ((a * d + c * b)) ((b * d)) = rd by rw [afD, hb, hrd]; rfl)
    replace hM := hid hM
    replace hrn := hid hrn
    replace hrd := hid hrd
    replace hrb := hid hrb
    go_enter Tryd.func7, Tryd.ntmps7
    go_upto_region 1 with fail
    rw [← hW]
    replace hW := hid hW
    go_wp2_with fail
    refine (l2Two_any (a := a) (b := b) (c := c) (d := d) W).mono ?_
    rw [show (fracB a b && fracB c d) = true from hb]
    rintro e w2 ⟨rfl, e2⟩
    have x0 := e2.cell x0
    have x1 := e2.cell x1
    have y0 := e2.cell y0
    have y1 := e2.cell y1
    have r0 := e2.cell z0
    have r1 := e2.cell z1
    have rf0 := e2.frozen z0 f0
    have rf1 := e2.frozen z1 f1
    go_wp2_with fail
    refine (hM.out w2).mono ?_
    rintro e w3 ⟨rfl, e3⟩
    have s0 := e3.cell r0
    have s1 := e3.cell r1
    have sf0 := e3.frozen r0 rf0
    have sf1 := e3.frozen r1 rf1
    go_wp2_with fail
    refine bodyPost_ret (v := .tuple #[.agg #[.int .i64 rn, .int .i64 rd], .bool rb]) (by simp [results, Tryd.results7, go_sem, s0, s1]) rfl ?_
    refine ⟨by rw [hv.out, hn.out, hm.out], ?_⟩
    exact @Ext.set _ _ (@Ext.set _ _ (Ext.trans eW (Ext.trans e2 e3)) ⟨w.heap.size + 1 + 1, 0, none⟩ (by show _ ≤ w.heap.size + 1 + 1; omega) _) ⟨w.heap.size + 1 + 1, 1, none⟩ (by show _ ≤ w.heap.size + 1 + 1; omega) _
set_option maxHeartbeats 1600000 in
theorem specMul_any {a b c d : Int} (w : World) :
    Calls Tryd.prog 9 #[.agg #[.int .i64 a, .int .i64 b], .agg #[.int .i64 c, .int .i64 d]] w fun e w' => e = .returned (.tuple #[.agg #[.int .i64 (afN a b c d (a * c) (b * d)), .int .i64 (afD a b c d (a * c) (b * d))], .bool (afB a b c d (a * c) (b * d))]) ∧ Ext w w' := by
  obtain ⟨W, hW⟩ : ∃ W, W = ((w.alloc (.cells #[.int .i64 a, .int .i64 b] 25)).alloc (.cells #[.int .i64 c, .int .i64 d] 25)).alloc (.cells #[.int .i64 0, .int .i64 0] 25) := ⟨_, rfl⟩
  have eW : Ext w W := by rw [hW]; infer_instance
  have x0 : W.cell? ⟨w.heap.size, 0, none⟩ = some (.int .i64 a) := by rw [hW]; go_simp
  have x1 : W.cell? ⟨w.heap.size, 1, none⟩ = some (.int .i64 b) := by rw [hW]; go_simp
  have y0 : W.cell? ⟨w.heap.size + 1, 0, none⟩ = some (.int .i64 c) := by rw [hW]; go_simp
  have y1 : W.cell? ⟨w.heap.size + 1, 1, none⟩ = some (.int .i64 d) := by rw [hW]; go_simp
  have z0 : W.cell? ⟨w.heap.size + 1 + 1, 0, none⟩ = some (.int .i64 0) := by rw [hW]; go_simp
  have z1 : W.cell? ⟨w.heap.size + 1 + 1, 1, none⟩ = some (.int .i64 0) := by rw [hW]; go_simp
  have f0 : W.frozen? ⟨w.heap.size + 1 + 1, 0, none⟩ = false := by rw [hW]; go_simp
  have f1 : W.frozen? ⟨w.heap.size + 1 + 1, 1, none⟩ = false := by rw [hW]; go_simp
  cases hb : fcB a b c d with
  | false =>
    have hv := hid (show afB a b c d (a * c) (b * d) = false by rw [afB, hb]; rfl)
    have hn := hid (show afN a b c d (a * c) (b * d) = 0 by rw [afN, hb]; rfl)
    have hm := hid (show afD a b c d (a * c) (b * d) = 0 by rw [afD, hb]; rfl)
    go_enter Tryd.func9, Tryd.ntmps9
    go_upto_region 1 with fail
    rw [← hW]
    replace hW := hid hW
    go_wp2_with fail
    refine (l2Two_any (a := a) (b := b) (c := c) (d := d) W).mono ?_
    rw [show (fracB a b && fracB c d) = false from hb]
    rintro e w2 ⟨rfl, e2⟩
    have r0 := e2.cell z0
    have r1 := e2.cell z1
    have rf0 := e2.frozen z0 f0
    have rf1 := e2.frozen z1 f1
    go_wp2_with fail
    refine bodyPost_ret (v := .tuple #[.agg #[.int .i64 0, .int .i64 0], .bool false]) (by simp [results, Tryd.results9, go_sem, r0, r1]) rfl ?_
    refine ⟨by rw [hv.out, hn.out, hm.out], ?_⟩
    exact @Ext.set _ _ (@Ext.set _ _ (Ext.trans eW e2) ⟨w.heap.size + 1 + 1, 0, none⟩ (by show _ ≤ w.heap.size + 1 + 1; omega) _) ⟨w.heap.size + 1 + 1, 1, none⟩ (by show _ ≤ w.heap.size + 1 + 1; omega) _
  | true =>
    have h2 := hb
    unfold fcB at h2
    rw [Bool.and_eq_true] at h2
    have q1 := fracB_in h2.1
    have q2 := fracB_in h2.2
    have m1 := mul_in (a := a) (b := d) (by omega) (by omega)
    have m2 := mul_in (a := c) (b := b) (by omega) (by omega)
    have m3 := mul_in (a := b) (b := d) (by omega) (by omega)
    have m4 : 1 ≤ b * d := Int.le_trans (show 1 ≤ b by omega) (by have := Int.mul_le_mul_of_nonneg_left (show 1 ≤ d by omega) (show 0 ≤ b by omega); omega)
    have m5 := mul_in2 (a := a) (b := c) (by omega) (by omega)
    have hM := fun (u : World) => l2Mul_any hb u
    obtain ⟨rn, hrn⟩ : ∃ q, q = mrN ((a * c)) ((b * d)) := ⟨_, rfl⟩
    obtain ⟨rd, hrd⟩ : ∃ q, q = mrD ((a * c)) ((b * d)) := ⟨_, rfl⟩
    obtain ⟨rb, hrb⟩ : ∃ q, q = mkB ((a * c)) ((b * d)) := ⟨_, rfl⟩
    rw [mkA_eq, ← hrn, ← hrd, ← hrb] at hM
    have hv := hid (show afB a b c d ((a * c)) ((b * d)) = rb by rw [afB, hb, hrb]; rfl)
    have hn := hid (show afN a b c d ((a * c)) ((b * d)) = rn by rw [afN, hb, hrn]; rfl)
    have hm := hid (show afD a b c d ((a * c)) ((b * d)) = rd by rw [afD, hb, hrd]; rfl)
    replace hM := hid hM
    replace hrn := hid hrn
    replace hrd := hid hrd
    replace hrb := hid hrb
    go_enter Tryd.func9, Tryd.ntmps9
    go_upto_region 1 with fail
    rw [← hW]
    replace hW := hid hW
    go_wp2_with fail
    refine (l2Two_any (a := a) (b := b) (c := c) (d := d) W).mono ?_
    rw [show (fracB a b && fracB c d) = true from hb]
    rintro e w2 ⟨rfl, e2⟩
    have x0 := e2.cell x0
    have x1 := e2.cell x1
    have y0 := e2.cell y0
    have y1 := e2.cell y1
    have r0 := e2.cell z0
    have r1 := e2.cell z1
    have rf0 := e2.frozen z0 f0
    have rf1 := e2.frozen z1 f1
    go_wp2_with fail
    refine (hM.out w2).mono ?_
    rintro e w3 ⟨rfl, e3⟩
    have s0 := e3.cell r0
    have s1 := e3.cell r1
    have sf0 := e3.frozen r0 rf0
    have sf1 := e3.frozen r1 rf1
    go_wp2_with fail
    refine bodyPost_ret (v := .tuple #[.agg #[.int .i64 rn, .int .i64 rd], .bool rb]) (by simp [results, Tryd.results9, go_sem, s0, s1]) rfl ?_
    refine ⟨by rw [hv.out, hn.out, hm.out], ?_⟩
    exact @Ext.set _ _ (@Ext.set _ _ (Ext.trans eW (Ext.trans e2 e3)) ⟨w.heap.size + 1 + 1, 0, none⟩ (by show _ ≤ w.heap.size + 1 + 1; omega) _) ⟨w.heap.size + 1 + 1, 1, none⟩ (by show _ ≤ w.heap.size + 1 + 1; omega) _
theorem den_pos2 {b c : Int} (h1 : 1 ≤ b) (h2 : 1 ≤ c) : 1 ≤ c * b :=
  Int.le_trans h2 (by have := Int.mul_le_mul_of_nonneg_left h1 (show 0 ≤ c by omega); omega)
set_option maxHeartbeats 1600000 in
theorem divPos_any {a b c d : Int} (hb : fcB a b c d = true) (hc : 0 < c) (hmb : mkB (a * d) (b * c) = true) (w : World) :
    Calls Tryd.prog 11 #[.agg #[.int .i64 a, .int .i64 b], .agg #[.int .i64 c, .int .i64 d]] w fun e w' => e = .returned (.tuple #[.agg #[.int .i64 (mkN (a * d) (b * c)), .int .i64 (mkD (a * d) (b * c))], .bool true]) ∧ Ext w w' := by
  obtain ⟨W, hW⟩ : ∃ W, W = ((w.alloc (.cells #[.int .i64 a, .int .i64 b] 25)).alloc (.cells #[.int .i64 c, .int .i64 d] 25)).alloc (.cells #[.int .i64 0, .int .i64 0] 25) := ⟨_, rfl⟩
  have eW : Ext w W := by rw [hW]; infer_instance
  have x0 : W.cell? ⟨w.heap.size, 0, none⟩ = some (.int .i64 a) := by rw [hW]; go_simp
  have x1 : W.cell? ⟨w.heap.size, 1, none⟩ = some (.int .i64 b) := by rw [hW]; go_simp
  have y0 : W.cell? ⟨w.heap.size + 1, 0, none⟩ = some (.int .i64 c) := by rw [hW]; go_simp
  have y1 : W.cell? ⟨w.heap.size + 1, 1, none⟩ = some (.int .i64 d) := by rw [hW]; go_simp
  have z0 : W.cell? ⟨w.heap.size + 1 + 1, 0, none⟩ = some (.int .i64 0) := by rw [hW]; go_simp
  have z1 : W.cell? ⟨w.heap.size + 1 + 1, 1, none⟩ = some (.int .i64 0) := by rw [hW]; go_simp
  have f0 : W.frozen? ⟨w.heap.size + 1 + 1, 0, none⟩ = false := by rw [hW]; go_simp
  have f1 : W.frozen? ⟨w.heap.size + 1 + 1, 1, none⟩ = false := by rw [hW]; go_simp
  have hf := hb
  unfold fcB at hf
  rw [Bool.and_eq_true] at hf
  have q1 := fracB_in hf.1
  have q2 := fracB_in hf.2
  have hc0 : (c == 0) = false := beq_eq_false_iff_ne.2 (by omega)
  have hfa := hid hb
  have m1 := mul_in (a := a) (b := d) (by omega) (by omega)
  have m2 := mul_in (a := c) (b := b) (by omega) (by omega)
  have m4 := den_pos2 (b := b) (c := c) (by omega) (by omega)
  rw [Int.mul_comm c b] at m2 m4
  have hM := fun (u : World) => makeFrac_any (n := (a * d)) (d := (b * c)) (by omega) (by omega) (by omega) (by omega) u
  obtain ⟨rn, hrn⟩ : ∃ q, q = mkN ((a * d)) ((b * c)) := ⟨_, rfl⟩
  obtain ⟨rd, hrd⟩ : ∃ q, q = mkD ((a * d)) ((b * c)) := ⟨_, rfl⟩
  have hA : mkA ((a * d)) ((b * c)) = .agg #[.int .i64 rn, .int .i64 rd] := by rw [mkA, hmb, if_pos rfl, hrn, hrd]
  rw [hA, hmb] at hM
  rw [← hrn, ← hrd]
  replace hM := hid hM
  replace hrn := hid hrn
  replace hrd := hid hrd
  replace hmb := hid hmb
  replace hA := hid hA
  replace hb := hid hb
  go_enter Tryd.func11, Tryd.ntmps11
  go_upto_region 1 with fail
  rw [← hW]
  replace hW := hid hW
  go_wp2_with fail
  refine (areFracs_any (a := a) (b := b) (c := c) (d := d) W).mono ?_
  rw [show (fracB a b && fracB c d) = true from hfa.out]
  rintro e w2 ⟨rfl, e2⟩
  have x0 := e2.cell x0
  have x1 := e2.cell x1
  have y0 := e2.cell y0
  have y1 := e2.cell y1
  have r0 := e2.cell z0
  have r1 := e2.cell z1
  have rf0 := e2.frozen z0 f0
  have rf1 := e2.frozen z1 f1
  go_wp2_with fail
  refine (hM.out w2).mono ?_
  rintro e w3 ⟨rfl, e3⟩
  have s0 := e3.cell r0
  have s1 := e3.cell r1
  have sf0 := e3.frozen r0 rf0
  have sf1 := e3.frozen r1 rf1
  go_wp2_with fail
  refine bodyPost_ret (v := .tuple #[.agg #[.int .i64 rn, .int .i64 rd], .bool true]) (by simp [results, Tryd.results11, go_sem, s0, s1]) rfl ?_
  refine ⟨rfl, ?_⟩
  exact @Ext.set _ _ (@Ext.set _ _ (Ext.trans eW (Ext.trans e2 e3)) ⟨w.heap.size + 1 + 1, 0, none⟩ (by show _ ≤ w.heap.size + 1 + 1; omega) _) ⟨w.heap.size + 1 + 1, 1, none⟩ (by show _ ≤ w.heap.size + 1 + 1; omega) _
set_option maxHeartbeats 1600000 in
theorem divNeg_any {a b c d : Int} (hb : fcB a b c d = true) (hc : c < 0) (hmb : mkB ((-a) * d) ((-b) * c) = true) (w : World) :
    Calls Tryd.prog 11 #[.agg #[.int .i64 a, .int .i64 b], .agg #[.int .i64 c, .int .i64 d]] w fun e w' => e = .returned (.tuple #[.agg #[.int .i64 (mkN ((-a) * d) ((-b) * c)), .int .i64 (mkD ((-a) * d) ((-b) * c))], .bool true]) ∧ Ext w w' := by
  obtain ⟨W, hW⟩ : ∃ W, W = ((w.alloc (.cells #[.int .i64 a, .int .i64 b] 25)).alloc (.cells #[.int .i64 c, .int .i64 d] 25)).alloc (.cells #[.int .i64 0, .int .i64 0] 25) := ⟨_, rfl⟩
  have eW : Ext w W := by rw [hW]; infer_instance
  have x0 : W.cell? ⟨w.heap.size, 0, none⟩ = some (.int .i64 a) := by rw [hW]; go_simp
  have x1 : W.cell? ⟨w.heap.size, 1, none⟩ = some (.int .i64 b) := by rw [hW]; go_simp
  have y0 : W.cell? ⟨w.heap.size + 1, 0, none⟩ = some (.int .i64 c) := by rw [hW]; go_simp
  have y1 : W.cell? ⟨w.heap.size + 1, 1, none⟩ = some (.int .i64 d) := by rw [hW]; go_simp
  have z0 : W.cell? ⟨w.heap.size + 1 + 1, 0, none⟩ = some (.int .i64 0) := by rw [hW]; go_simp
  have z1 : W.cell? ⟨w.heap.size + 1 + 1, 1, none⟩ = some (.int .i64 0) := by rw [hW]; go_simp
  have f0 : W.frozen? ⟨w.heap.size + 1 + 1, 0, none⟩ = false := by rw [hW]; go_simp
  have f1 : W.frozen? ⟨w.heap.size + 1 + 1, 1, none⟩ = false := by rw [hW]; go_simp
  have hf := hb
  unfold fcB at hf
  rw [Bool.and_eq_true] at hf
  have q1 := fracB_in hf.1
  have q2 := fracB_in hf.2
  have hc0 : (c == 0) = false := beq_eq_false_iff_ne.2 (by omega)
  have hfa := hid hb
  have m1 := mul_in (a := (-a)) (b := d) (by omega) (by omega)
  have m2 := mul_in (a := (-c)) (b := b) (by omega) (by omega)
  have m4 := den_pos2 (b := b) (c := (-c)) (by omega) (by omega)
  rw [show (-c) * b = (-b) * c by rw [Int.neg_mul, Int.neg_mul, Int.mul_comm]] at m2 m4
  have hM := fun (u : World) => makeFrac_any (n := ((-a) * d)) (d := ((-b) * c)) (by omega) (by omega) (by omega) (by omega) u
  obtain ⟨rn, hrn⟩ : ∃ q, q = mkN (((-a) * d)) (((-b) * c)) := ⟨_, rfl⟩
  obtain ⟨rd, hrd⟩ : ∃ q, q = mkD (((-a) * d)) (((-b) * c)) := ⟨_, rfl⟩
  have hA : mkA (((-a) * d)) (((-b) * c)) = .agg #[.int .i64 rn, .int .i64 rd] := by rw [mkA, hmb, if_pos rfl, hrn, hrd]
  rw [hA, hmb] at hM
  rw [← hrn, ← hrd]
  replace hM := hid hM
  replace hrn := hid hrn
  replace hrd := hid hrd
  replace hmb := hid hmb
  replace hA := hid hA
  replace hb := hid hb
  go_enter Tryd.func11, Tryd.ntmps11
  go_upto_region 1 with fail
  rw [← hW]
  replace hW := hid hW
  go_wp2_with fail
  refine (areFracs_any (a := a) (b := b) (c := c) (d := d) W).mono ?_
  rw [show (fracB a b && fracB c d) = true from hfa.out]
  rintro e w2 ⟨rfl, e2⟩
  have x0 := e2.cell x0
  have x1 := e2.cell x1
  have y0 := e2.cell y0
  have y1 := e2.cell y1
  have r0 := e2.cell z0
  have r1 := e2.cell z1
  have rf0 := e2.frozen z0 f0
  have rf1 := e2.frozen z1 f1
  go_wp2_with fail
  refine (hM.out w2).mono ?_
  rintro e w3 ⟨rfl, e3⟩
  have s0 := e3.cell r0
  have s1 := e3.cell r1
  have sf0 := e3.frozen r0 rf0
  have sf1 := e3.frozen r1 rf1
  go_wp2_with fail
  refine bodyPost_ret (v := .tuple #[.agg #[.int .i64 rn, .int .i64 rd], .bool true]) (by simp [results, Tryd.results11, go_sem, s0, s1]) rfl ?_
  refine ⟨rfl, ?_⟩
  exact @Ext.set _ _ (@Ext.set _ _ (Ext.trans eW (Ext.trans e2 e3)) ⟨w.heap.size + 1 + 1, 0, none⟩ (by show _ ≤ w.heap.size + 1 + 1; omega) _) ⟨w.heap.size + 1 + 1, 1, none⟩ (by show _ ≤ w.heap.size + 1 + 1; omega) _
set_option maxHeartbeats 1600000 in
theorem MakeFrac_any {n d : Int} (h0 : -1000000000000000 ≤ n) (h1 : n ≤ 1000000000000000) (h2 : 1 ≤ d) (h3 : d ≤ 1000000000000000) (w : World) :
    Calls Tryd.prog 21 #[.int .i64 n, .int .i64 d] w fun e w' => e = .returned (.tuple #[.agg #[.int .i64 (mrN n d), .int .i64 (mrD n d)], .bool (mkB n d)]) ∧ Ext w w' := by
  have i1 := hid (inB_true.2 ⟨h0, h1⟩)
  have i2 := hid (inB_true.2 ⟨h2, h3⟩)
  have hM := fun (u : World) => makeFrac_any (n := n) (d := d) (by omega) (by omega) (by omega) (by omega) u
  obtain ⟨rn, hrn⟩ : ∃ q, q = mrN n d := ⟨_, rfl⟩
  obtain ⟨rd, hrd⟩ : ∃ q, q = mrD n d := ⟨_, rfl⟩
  obtain ⟨rb, hrb⟩ : ∃ q, q = mkB n d := ⟨_, rfl⟩
  rw [mkA_eq, ← hrn, ← hrd, ← hrb] at hM
  rw [← hrn, ← hrd, ← hrb]
  replace hM := hid hM
  replace hrn := hid hrn
  replace hrd := hid hrd
  replace hrb := hid hrb
  obtain ⟨W, hW⟩ : ∃ W, W = w.alloc (.cells #[.int .i64 0, .int .i64 0] 25) := ⟨_, rfl⟩
  have eW : Ext w W := by rw [hW]; infer_instance
  have z0 : W.cell? ⟨w.heap.size, 0, none⟩ = some (.int .i64 0) := by rw [hW]; go_simp
  have z1 : W.cell? ⟨w.heap.size, 1, none⟩ = some (.int .i64 0) := by rw [hW]; go_simp
  have f0 : W.frozen? ⟨w.heap.size, 0, none⟩ = false := by rw [hW]; go_simp
  have f1 : W.frozen? ⟨w.heap.size, 1, none⟩ = false := by rw [hW]; go_simp
  go_enter Tryd.func21, Tryd.ntmps21
  go_upto_region 1 with fail
  rw [← hW]
  replace hW := hid hW
  go_wp2_with fail
  refine (within_any _ _ _ _).mono ?_
  rw [i1.out]
  rintro e w1 ⟨rfl, rfl⟩
  go_wp2_with fail
  refine (within_any _ _ _ _).mono ?_
  rw [i2.out]
  rintro e w1 ⟨rfl, rfl⟩
  go_wp2_with fail
  refine (hM.out W).mono ?_
  rintro e w3 ⟨rfl, e3⟩
  have s0 := e3.cell z0
  have s1 := e3.cell z1
  have sf0 := e3.frozen z0 f0
  have sf1 := e3.frozen z1 f1
  go_wp2_with fail
  refine bodyPost_ret (v := .tuple #[.agg #[.int .i64 rn, .int .i64 rd], .bool rb]) (by simp [results, Tryd.results21, go_sem, s0, s1]) rfl ?_
  refine ⟨rfl, ?_⟩
  exact @Ext.set _ _ (@Ext.set _ _ (Ext.trans eW e3) ⟨w.heap.size, 0, none⟩ (Nat.le_refl _) _) ⟨w.heap.size, 1, none⟩ (Nat.le_refl _) _
end Go.Proofs.YtohjbabjkjcddaaDoor
