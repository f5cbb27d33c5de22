/- Fractions: sums, differences, products and quotients. -/
import Derived.Test.YtohjbabjkjcddaaDoorFra
namespace Go.Proofs.YtohjbabjkjcddaaDoor
open Go.RowKit

def mrN (n d : Int) : Int := if mkB n d then mkN n d else 0
def mrD (n d : Int) : Int := if mkB n d then mkD n d else 0
theorem mkA_eq (n d : Int) : mkA n d = .agg #[.int .i64 (mrN n d), .int .i64 (mrD n d)] := by
  unfold mkA mrN mrD
  split <;> rfl
def afB (a b c d n m : Int) : Bool := fcB a b c d && mkB n m
def afN (a b c d n m : Int) : Int := if fcB a b c d then mrN n m else 0
def afD (a b c d n m : Int) : Int := if fcB a b c d then mrD n m else 0
set_option maxHeartbeats 1600000 in
theorem implAdd_any {a b c d : Int} (w : World) :
    Calls Tryd.prog 6 #[.agg #[.int .i64 a, .int .i64 b], .agg #[.int .i64 c, .int .i64 d]] w fun e w' => e = .returned (.tuple #[.agg #[.int .i64 (afN a b c d (a * d + c * b) (b * d)), .int .i64 (afD a b c d (a * d + c * b) (b * d))], .bool (afB a b c d (a * d + c * b) (b * d))]) ∧ Ext w w' := by
  obtain ⟨W, hW⟩ : ∃ W, W = ((w.alloc (.cells #[.int .i64 a, .int .i64 b] 25)).alloc (.cells #[.int .i64 c, .int .i64 d] 25)).alloc (.cells #[.int .i64 0, .int .i64 0] 25) := ⟨_, rfl⟩
  have eW : Ext w W := by rw [hW]; infer_instance
  have x0 : W.cell? ⟨w.heap.size, 0, none⟩ = some (.int .i64 a) := by rw [hW]; go_simp
  have x1 : W.cell? ⟨w.heap.size, 1, none⟩ = some (.int .i64 b) := by rw [hW]; go_simp
  have y0 : W.cell? ⟨w.heap.size + 1, 0, none⟩ = some (.int .i64 c) := by rw [hW]; go_simp
  have y1 : W.cell? ⟨w.heap.size + 1, 1, none⟩ = some (.int .i64 d) := by rw [hW]; go_simp
  have z0 : W.cell? ⟨w.heap.size + 1 + 1, 0, none⟩ = some (.int .i64 0) := by rw [hW]; go_simp
  have z1 : W.cell? ⟨w.heap.size + 1 + 1, 1, none⟩ = some (.int .i64 0) := by rw [hW]; go_simp
  have f0 : W.frozen? ⟨w.heap.size + 1 + 1, 0, none⟩ = false := by rw [hW]; go_simp
  have f1 : W.frozen? ⟨w.heap.size + 1 + 1, 1, none⟩ = false := by rw [hW]; go_simp
  cases hb : fcB a b c d with
  | false =>
    have hv := hid (show afB a b c d (a * d + c * b) (b * d) = false by rw [afB, hb]; rfl)
    have hn := hid (show afN a b c d (a * d + c * b) (b * d) = 0 by rw [afN, hb]; rfl)
    have hm := hid (show afD a b c d (a * d + c * b) (b * d) = 0 by rw [afD, hb]; rfl)
    go_enter Tryd.func6, Tryd.ntmps6
    go_upto_region 1 with fail
    rw [← hW]
    replace hW := hid hW
    go_wp2_with fail
    refine (areFracs_any (a := a) (b := b) (c := c) (d := d) W).mono ?_
    rw [show (fracB a b && fracB c d) = false from hb]
    rintro e w2 ⟨rfl, e2⟩
    have r0 := e2.cell z0
    have r1 := e2.cell z1
    have rf0 := e2.frozen z0 f0
    have rf1 := e2.frozen z1 f1
    go_wp2_with fail
    refine bodyPost_ret (v := .tuple #[.agg #[.int .i64 0, .int .i64 0], .bool false]) (by simp [results, Tryd.results6, go_sem, r0, r1]) rfl ?_
    refine ⟨by rw [hv.out, hn.out, hm.out], ?_⟩
    exact @Ext.set _ _ (@Ext.set _ _ (Ext.trans eW e2) ⟨w.heap.size + 1 + 1, 0, none⟩ (by show _ ≤ w.heap.size + 1 + 1; omega) _) ⟨w.heap.size + 1 + 1, 1, none⟩ (by show _ ≤ w.heap.size + 1 + 1; omega) _
  | true =>
    have h2 := hb
    unfold fcB at h2
    rw [Bool.and_eq_true] at h2
    have q1 := fracB_in h2.1
    have q2 := fracB_in h2.2
    have m1 := mul_in (a := a) (b := d) (by omega) (by omega)
    have m2 := mul_in (a := c) (b := b) (by omega) (by omega)
    have m3 := mul_in (a := b) (b := d) (by omega) (by omega)
    have m4 : 1 ≤ b * d := Int.le_trans (show 1 ≤ b by omega) (by have := Int.mul_le_mul_of_nonneg_left (show 1 ≤ d by omega) (show 0 ≤ b by omega); omega)
    have hM := fun (u : World) => makeFrac_any (n := (a * d + c * b)) (d := (b * d)) (by omega) (by omega) (by omega) (by omega) u
    obtain ⟨rn, hrn⟩ : ∃ q, q = mrN ((a * d + c * b)) ((b * d)) := ⟨_, rfl⟩
    obtain ⟨rd, hrd⟩ : ∃ q, q = mrD ((a * d + c * b)) ((b * d)) := ⟨_, rfl⟩
    obtain ⟨rb, hrb⟩ : ∃ q, q = mkB ((a * d + c * b)) ((b * d)) := ⟨_, rfl⟩
    rw [mkA_eq, ← hrn, ← hrd, ← hrb] at hM
    have hv := hid (show afB a b c d ((a * d + c * b)) ((b * d)) = rb by rw [afB, hb, hrb]; rfl)
    have hn := hid (show afN a b c d ((a * d + c * b)) ((b * d)) = rn by rw [afN, hb, hrn]; rfl)
    have hm := hid (show afD a b c d ((a * d + c * b)) ((b * d)) = rd by rw [afD, hb, hrd]; rfl)
    replace hM := hid hM
    replace hrn := hid hrn
    replace hrd := hid hrd
    replace hrb := hid hrb
    go_enter Tryd.func6, Tryd.ntmps6
    go_upto_region 1 with fail
    rw [← hW]
    replace hW := hid hW
    go_wp2_with fail
    refine (areFracs_any (a := a) (b := b) (c := c) (d := d) W).mono ?_
    rw [show (fracB a b && fracB c d) = true from hb]
    rintro e w2 ⟨rfl, e2⟩
    have x0 := e2.cell x0
    have x1 := e2.cell x1
    have y0 := e2.cell y0
    have y1 := e2.cell y1
    have r0 := e2.cell z0
    have r1 := e2.cell z1
    have rf0 := e2.frozen z0 f0
    have rf1 := e2.frozen z1 f1
    go_wp2_with fail
    refine (hM.out w2).mono ?_
    rintro e w3 ⟨rfl, e3⟩
    have s0 := e3.cell r0
    have s1 := e3.cell r1
    have sf0 := e3.frozen r0 rf0
    have sf1 := e3.frozen r1 rf1
    go_wp2_with fail
    refine bodyPost_ret (v := .tuple #[.agg #[.int .i64 rn, .int .i64 rd], .bool rb]) (by simp [results, Tryd.results6, go_sem, s0, s1]) rfl ?_
    refine ⟨by rw [hv.out, hn.out, hm.out], ?_⟩
    exact @Ext.set _ _ (@Ext.set _ _ (Ext.trans eW (Ext.trans e2 e3)) ⟨w.heap.size + 1 + 1, 0, none⟩ (by show _ ≤ w.heap.size + 1 + 1; omega) _) ⟨w.heap.size + 1 + 1, 1, none⟩ (by show _ ≤ w.heap.size + 1 + 1; omega) _
set_option maxHeartbeats 1600000 in
theorem implSub_any {a b c d : Int} (w : World) :
    Calls Tryd.prog 10 #[.agg #[.int .i64 a, .int .i64 b], .agg #[.int .i64 c, .int .i64 d]] w fun e w' => e = .returned (.tuple #[.agg #[.int .i64 (afN a b c d (a * d - c * b) (b * d)), .int .i64 (afD a b c d (a * d - c * b) (b * d))], .bool (afB a b c d (a * d - c * b) (b * d))]) ∧ Ext w w' := by
  obtain ⟨W, hW⟩ : ∃ W, W = ((w.alloc (.cells #[.int .i64 a, .int .i64 b] 25)).alloc (.cells #[.int .i64 c, .int .i64 d] 25)).alloc (.cells #[.int .i64 0, .int .i64 0] 25) := ⟨_, rfl⟩
  have eW : Ext w W := by rw [hW]; infer_instance
  have x0 : W.cell? ⟨w.heap.size, 0, none⟩ = some (.int .i64 a) := by rw [hW]; go_simp
  have x1 : W.cell? ⟨w.heap.size, 1, none⟩ = some (.int .i64 b) := by rw [hW]; go_simp
  have y0 : W.cell? ⟨w.heap.size + 1, 0, none⟩ = some (.int .i64 c) := by rw [hW]; go_simp
  have y1 : W.cell? ⟨w.heap.size + 1, 1, none⟩ = some (.int .i64 d) := by rw [hW]; go_simp
  have z0 : W.cell? ⟨w.heap.size + 1 + 1, 0, none⟩ = some (.int .i64 0) := by rw [hW]; go_simp
  have z1 : W.cell? ⟨w.heap.size + 1 + 1, 1, none⟩ = some (.int .i64 0) := by rw [hW]; go_simp
  have f0 : W.frozen? ⟨w.heap.size + 1 + 1, 0, none⟩ = false := by rw [hW]; go_simp
  have f1 : W.frozen? ⟨w.heap.size + 1 + 1, 1, none⟩ = false := by rw [hW]; go_simp
  cases hb : fcB a b c d with
  | false =>
    have hv := hid (show afB a b c d (a * d - c * b) (b * d) = false by rw [afB, hb]; rfl)
    have hn := hid (show afN a b c d (a * d - c * b) (b * d) = 0 by rw [afN, hb]; rfl)
    have hm := hid (show afD a b c d (a * d - c * b) (b * d) = 0 by rw [afD, hb]; rfl)
    go_enter Tryd.func10, Tryd.ntmps10
    go_upto_region 1 with fail
    rw [← hW]
    replace hW := hid hW
    go_wp2_with fail
    refine (areFracs_any (a := a) (b := b) (c := c) (d := d) W).mono ?_
    rw [show (fracB a b && fracB c d) = false from hb]
    rintro e w2 ⟨rfl, e2⟩
    have r0 := e2.cell z0
    have r1 := e2.cell z1
    have rf0 := e2.frozen z0 f0
    have rf1 := e2.frozen z1 f1
    go_wp2_with fail
    refine bodyPost_ret (v := .tuple #[.agg #[.int .i64 0, .int .i64 0], .bool false]) (by simp [results, Tryd.results10, go_sem, r0, r1]) rfl ?_
    refine ⟨by rw [hv.out, hn.out, hm.out], ?_⟩
    exact @Ext.set _ _ (@Ext.set _ _ (Ext.trans eW e2) ⟨w.heap.size + 1 + 1, 0, none⟩ (by show _ ≤ w.heap.size + 1 + 1; omega) _) ⟨w.heap.size + 1 + 1, 1, none⟩ (by show _ ≤ w.heap.size + 1 + 1; omega) _
  | true =>
    have h2 := hb
    unfold fcB at h2
    rw [Bool.and_eq_true] at h2
    have q1 := fracB_in h2.1
    have q2 := fracB_in h2.2
    have m1 := mul_in (a := a) (b := d) (by omega) (by omega)
    have m2 := mul_in (a := c) (b := b) (by omega) (by omega)
    have m3 := mul_in (a := b) (b := d) (by omega) (by omega)
    have m4 : 1 ≤ b * d := Int.le_trans (show 1 ≤ b by omega) (by have := Int.mul_le_mul_of_nonneg_left (show 1 ≤ d by omega) (show 0 ≤ b by omega); omega)
    have hM := fun (u : World) => makeFrac_any (n := (a * d - c * b)) (d := (b * d)) (by omega) (by omega) (by omega) (by omega) u
    obtain ⟨rn, hrn⟩ : ∃ q, q = mrN ((a * d - c * b)) ((b * d)) := ⟨_, rfl⟩
    obtain ⟨rd, hrd⟩ : ∃ q, q = mrD ((a * d - c * b)) ((b * d)) := ⟨_, rfl⟩
    obtain ⟨rb, hrb⟩ : ∃ q, q = mkB ((a * d - c * b)) ((b * d)) := ⟨_, rfl⟩
    rw [mkA_eq, ← hrn, ← hrd, ← hrb] at hM
    have hv := hid (show afB a b c d ((a * d - c * b)) ((b * d)) = rb by rw [afB, hb, hrb]; rfl)
    have hn := hid (show afN a b c d ((a * d - c * b)) ((b * d)) = rn by rw [afN, hb, hrn]; rfl)
    have hm := hid (show afD a b c d ((a * d - c * b)) ((b * d)) = rd by rw [afD, hb, hrd]; rfl)
    replace hM := hid hM
    replace hrn := hid hrn
    replace hrd := hid hrd
    replace hrb := hid hrb
    go_enter Tryd.func10, Tryd.ntmps10
    go_upto_region 1 with fail
    rw [← hW]
    replace hW := hid hW
    go_wp2_with fail
    refine (areFracs_any (a := a) (b := b) (c := c) (d := d) W).mono ?_
    rw [show (fracB a b && fracB c d) = true from hb]
    rintro e w2 ⟨rfl, e2⟩
    have x0 := e2.cell x0
    have x1 := e2.cell x1
    have y0 := e2.cell y0
    have y1 := e2.cell y1
    have r0 := e2.cell z0
    have r1 := e2.cell z1
    have rf0 := e2.frozen z0 f0
    have rf1 := e2.frozen z1 f1
    go_wp2_with fail
    refine (hM.out w2).mono ?_
    rintro e w3 ⟨rfl, e3⟩
    have s0 := e3.cell r0
    have s1 := e3.cell r1
    have sf0 := e3.frozen r0 rf0
    have sf1 := e3.frozen r1 rf1
    go_wp2_with fail
    refine bodyPost_ret (v := .tuple #[.agg #[.int .i64 rn, .int .i64 rd], .bool rb]) (by simp [results, Tryd.results10, go_sem, s0, s1]) rfl ?_
    refine ⟨by rw [hv.out, hn.out, hm.out], ?_⟩
    exact @Ext.set _ _ (@Ext.set _ _ (Ext.trans eW (Ext.trans e2 e3)) ⟨w.heap.size + 1 + 1, 0, none⟩ (by show _ ≤ w.heap.size + 1 + 1; omega) _) ⟨w.heap.size + 1 + 1, 1, none⟩ (by show _ ≤ w.heap.size + 1 + 1; omega) _
end Go.Proofs.YtohjbabjkjcddaaDoor
