/- RatioOn of the reference and of the program. Written by ratio.py. -/
import Derived.Test.YtobfehekjapnhaaFrac
import Derived.Test.YtobfehekjapnhaaAlgS
import Derived.Test.YtobfehekjapnhaaBestP
namespace Go.Proofs.Ytobfehekjapnhaa
open Go.RowKit

theorem algOk_parts {M S N : List (List Int)} {s : Int} {X : List Int} (h : algOk M S N s X = true) : startB M S s X = true ∧ algB M S N = true := by
  simpa [algOk] using h

set_option maxHeartbeats 800000 in
set_option maxRecDepth 100000 in
theorem l9Takes_any {v vN vX : Value} {M S N : List (List Int)} {X : List Int} {s : Int} {w0 w : World} [Ext w0 w] (hp : IsProb w0 v M S) (hN : IsRows w0 vN N) (hX : IsInts w0 vX X) :
    Calls Try.prog 49 #[v, vN, .int .i64 s, vX] w fun e w' => e = .returned (.bool (algOk M S N s X)) ∧ Ext w w' := by
  have hp' := hp
  obtain ⟨v1, v2, rfl, hM, hS⟩ := hp
  have hM' := hM
  have hS' := hS
  obtain ⟨a1, c1, rfl, l1⟩ := hM.form
  obtain ⟨a2, c2, rfl, l2⟩ := hS.form
  have hN' := hN
  obtain ⟨aN, cN, rfl, lN⟩ := hN.form
  have hX' := hX
  obtain ⟨aX, cX, rfl, lX⟩ := hX.form
  cases hB0 : startB M S s X with
  | false =>
    have hr := hid (algOk_start (N := N) hB0)
    replace hB0 := hid hB0
    go_enter Try.func49, Try.ntmps49
    go_wp2_with fail
    refine (l8Takes_any (w0 := w0) hp' hX').mono ?_; rw [hB0.out]; rintro e w1 ⟨rfl, hb1⟩
    go_wp2_with fail
    go_ret
    exact ⟨ret_bool hr.out.symm, Ext.trans inferInstance hb1⟩
  | true =>
    have hC0 := hid hB0
    have hr := hid (show algOk M S N s X = algB M S N by simp [algOk, hB0])
    replace hB0 := hid hB0
    go_enter Try.func49, Try.ntmps49
    go_wp2_with fail
    refine (l8Takes_any (w0 := w0) hp' hX').mono ?_; rw [hB0.out]; rintro e w1 ⟨rfl, hb1⟩
    have x0 : w1.cell? ⟨w.heap.size, 0, none⟩ = some (.slice a1 M.length c1) := hb1.cell (by go_simp)
    have x1 : w1.cell? ⟨w.heap.size, 1, none⟩ = some (.slice a2 S.length c2) := hb1.cell (by go_simp)
    have e1 : Ext w w1 := Ext.trans inferInstance hb1
    have e0 : Ext w0 w1 := Ext.trans ‹Ext w0 w› e1
    clear hb1
    go_wp2_with fail
    refine (l8Alg_any (w0 := w0) hM' hS' hN' (startB_prob hC0.out)).mono ?_; rintro e w2 ⟨rfl, hb2⟩
    go_wp2_with fail
    go_ret
    exact ⟨ret_bool hr.out.symm, Ext.trans e1 hb2⟩

/-- the ratio on a sequence: whether there is one, and its parts -/
def ratB (M S N : List (List Int)) (s : Int) (X : List Int) : Bool := algOk M S N s X && (!decide (optL M S (row M s.toNat) X = 0) && mkB (sumA M S N s X X.length) (optL M S (row M s.toNat) X))
def ratN (M S N : List (List Int)) (s : Int) (X : List Int) : Int := if ratB M S N s X = true then mkN (sumA M S N s X X.length) (optL M S (row M s.toNat) X) else 0
def ratD (M S N : List (List Int)) (s : Int) (X : List Int) : Int := if ratB M S N s X = true then mkD (sumA M S N s X X.length) (optL M S (row M s.toNat) X) else 0
theorem rat_no {M S N : List (List Int)} {s : Int} {X : List Int} (h : algOk M S N s X = false) : ratB M S N s X = false ∧ ratN M S N s X = 0 ∧ ratD M S N s X = 0 := by simp [ratB, ratN, ratD, h]
theorem rat_zero {M S N : List (List Int)} {s : Int} {X : List Int} (h : optL M S (row M s.toNat) X = 0) : ratB M S N s X = false ∧ ratN M S N s X = 0 ∧ ratD M S N s X = 0 := by simp [ratB, ratN, ratD, h]
theorem rat_mk {M S N : List (List Int)} {s : Int} {X : List Int} (h0 : algOk M S N s X = true) (h : optL M S (row M s.toNat) X ≠ 0) :
    mkB (sumA M S N s X X.length) (optL M S (row M s.toNat) X) = ratB M S N s X ∧ mkA (sumA M S N s X X.length) (optL M S (row M s.toNat) X) = .agg #[.int .i64 (ratN M S N s X), .int .i64 (ratD M S N s X)] := by
  have e : ratB M S N s X = mkB (sumA M S N s X X.length) (optL M S (row M s.toNat) X) := by simp [ratB, h0, h]
  refine ⟨e.symm, ?_⟩
  unfold mkA ratN ratD
  rw [e]
  split <;> rfl
theorem start_opt {M S : List (List Int)} {s : Int} {X : List Int} (h : startB M S s X = true) : 0 ≤ optL M S (row M s.toNat) X ∧ optL M S (row M s.toNat) X ≤ 10000 := by
  have hs := startB_state h
  have := opt_in h (y := s.toNat) (by omega) 0
  simpa using this

set_option maxHeartbeats 1600000 in
set_option maxRecDepth 100000 in
theorem specRatio_any {v vN vX : Value} {M S N : List (List Int)} {X : List Int} {s : Int} {w0 w : World} [Ext w0 w] (hp : IsProb w0 v M S) (hN : IsRows w0 vN N) (hs : I64 s) (hX : IsInts w0 vX X) :
    Calls Try.prog 21 #[v, vN, .int .i64 s, vX] w fun e w' => e = .returned (.tuple #[.agg #[.int .i64 (ratN M S N s X), .int .i64 (ratD M S N s X)], .bool (ratB M S N s X)]) ∧ Ext w w' := by
  have hp' := hp
  obtain ⟨v1, v2, rfl, hM, hS⟩ := hp
  have hM' := hM
  have hS' := hS
  obtain ⟨a1, c1, rfl, l1⟩ := hM.form
  obtain ⟨a2, c2, rfl, l2⟩ := hS.form
  have hN' := hN
  obtain ⟨aN, cN, rfl, lN⟩ := hN.form
  have hX' := hX
  obtain ⟨aX, cX, rfl, lX⟩ := hX.form
  have _hs := hs
  obtain ⟨W, hW⟩ : ∃ W, W = (w.alloc (.cells #[.slice a1 M.length c1, .slice a2 S.length c2] 29)).alloc (.cells #[.int .i64 0, .int .i64 0] 39) := ⟨_, rfl⟩
  have eW : Ext w W := by rw [hW]; infer_instance
  have k0 : W.cell? ⟨w.heap.size, 0, none⟩ = some (.slice a1 M.length c1) := by rw [hW]; go_simp
  have k1 : W.cell? ⟨w.heap.size, 1, none⟩ = some (.slice a2 S.length c2) := by rw [hW]; go_simp
  have c0 : W.cell? ⟨w.heap.size + 1, 0, none⟩ = some (.int .i64 0) := by rw [hW]; go_simp
  have c1' : W.cell? ⟨w.heap.size + 1, 1, none⟩ = some (.int .i64 0) := by rw [hW]; go_simp
  have f0 : W.frozen? ⟨w.heap.size + 1, 0, none⟩ = false := by rw [hW]; go_simp
  have f1 : W.frozen? ⟨w.heap.size + 1, 1, none⟩ = false := by rw [hW]; go_simp
  have eW0 : Ext w0 W := Ext.trans ‹Ext w0 w› eW
  cases hA : algOk M S N s X with
  | false =>
    have hr := hid (rat_no hA)
    have hcost := hid (costA_false hA)
    replace hA := hid hA
    go_enter Try.func21, Try.ntmps21
    go_upto_region 1 with fail
    rw [← hW]
    clear hW
    go_wp2_with fail
    refine (l9Takes_any (w0 := w0) hp' hN' hX').mono ?_; rw [hA.out]; rintro e w1 ⟨rfl, hb1⟩
    have r0 := hb1.cell c0
    have r1 := hb1.cell c1'
    have rf0 := hb1.frozen c0 f0
    have rf1 := hb1.frozen c1' f1
    go_wp2_with fail
    refine bodyPost_ret (v := .tuple #[.agg #[.int .i64 0, .int .i64 0], .bool false]) (by simp [results, Try.results21, go_sem, r0, r1]) rfl ?_
    refine ⟨by rw [hr.out.1, hr.out.2.1, hr.out.2.2], ?_⟩
    exact @Ext.set _ _ (@Ext.set _ _ (Ext.trans eW hb1) ⟨w.heap.size + 1, 0, none⟩ (Nat.le_succ _) _) ⟨w.heap.size + 1, 1, none⟩ (Nat.le_succ _) _
  | true =>
    have hpt := hid (algOk_parts hA)
    have hcost := hid (costA_true hA)
    have hA' := hid hA
    replace hA := hid hA
    have hso := hid (start_opt hpt.out.1)
    have hsc := hid (sumA_le hpt.out.1 hpt.out.2 (k := X.length) (Nat.le_refl _))
    have hxl := hid (startB_len hpt.out.1)
    by_cases hz : optL M S (row M s.toNat) X = 0
    · have hr := hid (rat_zero (N := N) hz)
      have hz' : (optL M S (row M s.toNat) X == 0) = true := by simpa using hz
      replace hz := hid hz
      go_enter Try.func21, Try.ntmps21
      go_upto_region 1 with fail
      rw [← hW]
      clear hW
      go_wp2_with fail
      refine (l9Takes_any (w0 := w0) hp' hN' hX').mono ?_; rw [hA.out]; rintro e w1 ⟨rfl, hb1⟩
      have e01 : Ext w0 w1 := Ext.trans eW0 hb1
      have z0 := hb1.cell k0
      have z1 := hb1.cell k1
      go_wp2_with fail
      refine (l8Opt_any (w0 := w0) hM' hS' hX' hpt.out.1).mono ?_; rintro e w2 ⟨rfl, hb2⟩
      have e2 : Ext W w2 := Ext.trans hb1 hb2
      have e02 : Ext w0 w2 := Ext.trans eW0 e2
      have y0 := hb2.cell z0
      have y1 := hb2.cell z1
      clear z0 z1
      have r0 := e2.cell c0
      have r1 := e2.cell c1'
      have rf0 := e2.frozen c0 f0
      have rf1 := e2.frozen c1' f1
      go_wp2_with fail
      refine bodyPost_ret (v := .tuple #[.agg #[.int .i64 0, .int .i64 0], .bool false]) (by simp [results, Try.results21, go_sem, r0, r1]) rfl ?_
      refine ⟨by rw [hr.out.1, hr.out.2.1, hr.out.2.2], ?_⟩
      exact @Ext.set _ _ (@Ext.set _ _ (Ext.trans eW e2) ⟨w.heap.size + 1, 0, none⟩ (Nat.le_succ _) _) ⟨w.heap.size + 1, 1, none⟩ (Nat.le_succ _) _
    · have hr := hid (rat_mk hA'.out hz)
      have hz' : (optL M S (row M s.toNat) X == 0) = false := by simpa using hz
      have hm := hid (show (-1000000000000000 ≤ sumA M S N s X X.length ∧ sumA M S N s X X.length ≤ 1000000000000000) ∧ 1 ≤ optL M S (row M s.toNat) X ∧ optL M S (row M s.toNat) X ≤ 1000000000000000 by have := hso.out; have := hsc.out; have := hxl.out; omega)
      replace hz := hid hz
      go_enter Try.func21, Try.ntmps21
      go_upto_region 1 with fail
      rw [← hW]
      clear hW
      go_wp2_with fail
      refine (l9Takes_any (w0 := w0) hp' hN' hX').mono ?_; rw [hA.out]; rintro e w1 ⟨rfl, hb1⟩
      have e01 : Ext w0 w1 := Ext.trans eW0 hb1
      have z0 := hb1.cell k0
      have z1 := hb1.cell k1
      go_wp2_with fail
      refine (l8Opt_any (w0 := w0) hM' hS' hX' hpt.out.1).mono ?_; rintro e w2 ⟨rfl, hb2⟩
      have e2 : Ext W w2 := Ext.trans hb1 hb2
      have e02 : Ext w0 w2 := Ext.trans eW0 e2
      have y0 := hb2.cell z0
      have y1 := hb2.cell z1
      clear z0 z1
      go_wp2_with fail
      refine (l8Cost_any (w0 := w0) hM' hS' hN' hX' hpt.out.1 hpt.out.2).mono ?_; rintro e w3 ⟨rfl, hb3⟩
      have e3 : Ext W w3 := Ext.trans e2 hb3
      go_wp2_with fail
      refine (l2Make_any hm.out.1.1 hm.out.1.2 hm.out.2.1 hm.out.2.2 _).mono ?_
      rw [hr.out.1, hr.out.2]
      rintro e w4 ⟨rfl, hb4⟩
      have e4 : Ext W w4 := Ext.trans e3 hb4
      have r0 := e4.cell c0
      have r1 := e4.cell c1'
      have rf0 := e4.frozen c0 f0
      have rf1 := e4.frozen c1' f1
      go_wp2_with fail
      refine bodyPost_ret (v := .tuple #[.agg #[.int .i64 (ratN M S N s X), .int .i64 (ratD M S N s X)], .bool (ratB M S N s X)]) (by simp [results, Try.results21, go_sem, r0, r1]) rfl ?_
      refine ⟨rfl, ?_⟩
      exact @Ext.set _ _ (@Ext.set _ _ (Ext.trans eW e4) ⟨w.heap.size + 1, 0, none⟩ (Nat.le_succ _) _) ⟨w.heap.size + 1, 1, none⟩ (Nat.le_succ _) _

set_option maxHeartbeats 1600000 in
set_option maxRecDepth 100000 in
theorem implRatio_any {v vN vX : Value} {M S N : List (List Int)} {X : List Int} {s : Int} {w0 w : World} [Ext w0 w] (hp : IsProb w0 v M S) (hN : IsRows w0 vN N) (hs : I64 s) (hX : IsInts w0 vX X) :
    Calls Try.prog 23 #[v, vN, .int .i64 s, vX] w fun e w' => e = .returned (.tuple #[.agg #[.int .i64 (ratN M S N s X), .int .i64 (ratD M S N s X)], .bool (ratB M S N s X)]) ∧ Ext w w' := by
  have hp' := hp
  obtain ⟨v1, v2, rfl, hM, hS⟩ := hp
  have hM' := hM
  have hS' := hS
  obtain ⟨a1, c1, rfl, l1⟩ := hM.form
  obtain ⟨a2, c2, rfl, l2⟩ := hS.form
  have hN' := hN
  obtain ⟨aN, cN, rfl, lN⟩ := hN.form
  have hX' := hX
  obtain ⟨aX, cX, rfl, lX⟩ := hX.form
  have _hs := hs
  obtain ⟨W, hW⟩ : ∃ W, W = (w.alloc (.cells #[.slice a1 M.length c1, .slice a2 S.length c2] 29)).alloc (.cells #[.int .i64 0, .int .i64 0] 39) := ⟨_, rfl⟩
  have eW : Ext w W := by rw [hW]; infer_instance
  have k0 : W.cell? ⟨w.heap.size, 0, none⟩ = some (.slice a1 M.length c1) := by rw [hW]; go_simp
  have k1 : W.cell? ⟨w.heap.size, 1, none⟩ = some (.slice a2 S.length c2) := by rw [hW]; go_simp
  have c0 : W.cell? ⟨w.heap.size + 1, 0, none⟩ = some (.int .i64 0) := by rw [hW]; go_simp
  have c1' : W.cell? ⟨w.heap.size + 1, 1, none⟩ = some (.int .i64 0) := by rw [hW]; go_simp
  have f0 : W.frozen? ⟨w.heap.size + 1, 0, none⟩ = false := by rw [hW]; go_simp
  have f1 : W.frozen? ⟨w.heap.size + 1, 1, none⟩ = false := by rw [hW]; go_simp
  have eW0 : Ext w0 W := Ext.trans ‹Ext w0 w› eW
  cases hA : algOk M S N s X with
  | false =>
    have hr := hid (rat_no hA)
    have hcost := hid (costA_false hA)
    replace hA := hid hA
    go_enter Try.func23, Try.ntmps23
    go_upto_region 1 with fail
    rw [← hW]
    clear hW
    go_wp2_with fail
    refine (implAlgCost_any (w0 := w0) hp' hN' hs hX').mono ?_; rw [hA.out, hcost.out]; rintro e w1 ⟨rfl, hb1⟩
    have r0 := hb1.cell c0
    have r1 := hb1.cell c1'
    have rf0 := hb1.frozen c0 f0
    have rf1 := hb1.frozen c1' f1
    go_wp2_with fail
    refine bodyPost_ret (v := .tuple #[.agg #[.int .i64 0, .int .i64 0], .bool false]) (by simp [results, Try.results23, go_sem, r0, r1]) rfl ?_
    refine ⟨by rw [hr.out.1, hr.out.2.1, hr.out.2.2], ?_⟩
    exact @Ext.set _ _ (@Ext.set _ _ (Ext.trans eW hb1) ⟨w.heap.size + 1, 0, none⟩ (Nat.le_succ _) _) ⟨w.heap.size + 1, 1, none⟩ (Nat.le_succ _) _
  | true =>
    have hpt := hid (algOk_parts hA)
    have hcost := hid (costA_true hA)
    have hA' := hid hA
    replace hA := hid hA
    have hso := hid (start_opt hpt.out.1)
    have hsc := hid (sumA_le hpt.out.1 hpt.out.2 (k := X.length) (Nat.le_refl _))
    have hxl := hid (startB_len hpt.out.1)
    by_cases hz : optL M S (row M s.toNat) X = 0
    · have hr := hid (rat_zero (N := N) hz)
      have hz' : (optL M S (row M s.toNat) X == 0) = true := by simpa using hz
      replace hz := hid hz
      go_enter Try.func23, Try.ntmps23
      go_upto_region 1 with fail
      rw [← hW]
      clear hW
      go_wp2_with fail
      refine (implAlgCost_any (w0 := w0) hp' hN' hs hX').mono ?_; rw [hA.out, hcost.out]; rintro e w1 ⟨rfl, hb1⟩
      have e01 : Ext w0 w1 := Ext.trans eW0 hb1
      have z0 := hb1.cell k0
      have z1 := hb1.cell k1
      go_wp2_with fail
      refine (leastCost_any (w0 := w0) hM' hS' hX' hpt.out.1).mono ?_; rintro e w2 ⟨rfl, hb2⟩
      have e2 : Ext W w2 := Ext.trans hb1 hb2
      have e02 : Ext w0 w2 := Ext.trans eW0 e2
      have y0 := hb2.cell z0
      have y1 := hb2.cell z1
      clear z0 z1
      have r0 := e2.cell c0
      have r1 := e2.cell c1'
      have rf0 := e2.frozen c0 f0
      have rf1 := e2.frozen c1' f1
      go_wp2_with fail
      refine bodyPost_ret (v := .tuple #[.agg #[.int .i64 0, .int .i64 0], .bool false]) (by simp [results, Try.results23, go_sem, r0, r1]) rfl ?_
      refine ⟨by rw [hr.out.1, hr.out.2.1, hr.out.2.2], ?_⟩
      exact @Ext.set _ _ (@Ext.set _ _ (Ext.trans eW e2) ⟨w.heap.size + 1, 0, none⟩ (Nat.le_succ _) _) ⟨w.heap.size + 1, 1, none⟩ (Nat.le_succ _) _
    · have hr := hid (rat_mk hA'.out hz)
      have hz' : (optL M S (row M s.toNat) X == 0) = false := by simpa using hz
      have hm := hid (show (-1000000000000000 ≤ sumA M S N s X X.length ∧ sumA M S N s X X.length ≤ 1000000000000000) ∧ 1 ≤ optL M S (row M s.toNat) X ∧ optL M S (row M s.toNat) X ≤ 1000000000000000 by have := hso.out; have := hsc.out; have := hxl.out; omega)
      replace hz := hid hz
      go_enter Try.func23, Try.ntmps23
      go_upto_region 1 with fail
      rw [← hW]
      clear hW
      go_wp2_with fail
      refine (implAlgCost_any (w0 := w0) hp' hN' hs hX').mono ?_; rw [hA.out, hcost.out]; rintro e w1 ⟨rfl, hb1⟩
      have e01 : Ext w0 w1 := Ext.trans eW0 hb1
      have z0 := hb1.cell k0
      have z1 := hb1.cell k1
      go_wp2_with fail
      refine (leastCost_any (w0 := w0) hM' hS' hX' hpt.out.1).mono ?_; rintro e w2 ⟨rfl, hb2⟩
      have e2 : Ext W w2 := Ext.trans hb1 hb2
      have e02 : Ext w0 w2 := Ext.trans eW0 e2
      have y0 := hb2.cell z0
      have y1 := hb2.cell z1
      clear z0 z1
      obtain ⟨w3, rfl⟩ : ∃ x : World, x = w2 := ⟨_, rfl⟩
      have e3 := e2
      go_wp2_with fail
      refine (makeFrac_any hm.out.1.1 hm.out.1.2 hm.out.2.1 hm.out.2.2 _).mono ?_
      rw [hr.out.1, hr.out.2]
      rintro e w4 ⟨rfl, hb4⟩
      have e4 : Ext W w4 := Ext.trans e3 hb4
      have r0 := e4.cell c0
      have r1 := e4.cell c1'
      have rf0 := e4.frozen c0 f0
      have rf1 := e4.frozen c1' f1
      go_wp2_with fail
      refine bodyPost_ret (v := .tuple #[.agg #[.int .i64 (ratN M S N s X), .int .i64 (ratD M S N s X)], .bool (ratB M S N s X)]) (by simp [results, Try.results23, go_sem, r0, r1]) rfl ?_
      refine ⟨rfl, ?_⟩
      exact @Ext.set _ _ (@Ext.set _ _ (Ext.trans eW e4) ⟨w.heap.size + 1, 0, none⟩ (Nat.le_succ _) _) ⟨w.heap.size + 1, 1, none⟩ (Nat.le_succ _) _

end Go.Proofs.Ytobfehekjapnhaa
