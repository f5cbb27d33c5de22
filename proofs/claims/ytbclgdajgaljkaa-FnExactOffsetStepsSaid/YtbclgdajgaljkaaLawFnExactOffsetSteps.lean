/- 'laws.FnExactOffsetSteps' walked: it returns true for every input. Written by lawgen2.py. -/
import Derived.Test.YtbclgdajgaljkaaOffsX
import Derived.Test.YtbclgdajgaljkaaMark
import Derived.Deep.RegionWith
import Derived.Deep.Cut
import Derived.Deep.DeepCutAuto
namespace Go.Proofs.Ytbclgdajgaljkaa
open Go.RowKit

set_option maxHeartbeats 3200000 in
set_option maxRecDepth 100000 in
theorem lawFnExactOffsetSteps_any {v0 : Value} {M0 S0 : List (List Int)} {n1 : Int} {w : World} (a0 : IsProb w v0 M0 S0) (a1 : I64 n1) :
    Calls Try.prog 15 #[v0, .int .i64 n1] w fun e w' => e = .returned (.bool true) ∧ Ext w w' := by
  have b0 := a0
  obtain ⟨v0a, v0b, rfl, hM0, hS0⟩ := b0
  obtain ⟨f0a, c0a, rfl, l0a⟩ := hM0.form
  obtain ⟨f0b, c0b, rfl, l0b⟩ := hS0.form
  clear hM0 hS0
  by_cases g0 : (1048576 : Int) - ((M0.length + sumLen M0 + (S0.length + sumLen S0)) : Nat) < 0
  · have gl0 := hid (show leftOf 1048576 (M0.length + sumLen M0 + (S0.length + sumLen S0)) = -1 by rw [leftOf, if_pos g0])
    go_enter Try.func15, Try.ntmps15
    go_wp2_with fail
    refine (szProblem_any (w0 := w) a0 (by omega) (by omega)).mono ?_
    rw [gl0.out]; rintro e wz ⟨rfl, hb⟩
    go_wp2_with fail
    go_ret
    exact ⟨rfl, Ext.trans inferInstance hb⟩
  · have gl0 := hid (show leftOf 1048576 (M0.length + sumLen M0 + (S0.length + sumLen S0)) = 1048576 - ((M0.length + sumLen M0 + (S0.length + sumLen S0)) : Nat) by rw [leftOf, if_neg g0])
    have gn0 : 0 ≤ (1048576 : Int) - ((M0.length + sumLen M0 + (S0.length + sumLen S0)) : Nat) := by omega
    have gm0 : (1048576 : Int) - ((M0.length + sumLen M0 + (S0.length + sumLen S0)) : Nat) ≤ 1048576 := by omega
    have hsm0 : (M0.length + sumLen M0 + (S0.length + sumLen S0)) ≤ 1048576 := by omega
    generalize hz0 : (1048576 : Int) - ((M0.length + sumLen M0 + (S0.length + sumLen S0)) : Nat) = z0 at *
    replace hz0 := hid hz0
    clear g0
    replace hsm0 := hid hsm0
    -- all sizes are right
    have heq := hid (show eqP M0 S0 M0 S0 = true from eqP_iff.2 ⟨rfl, rfl⟩)
    go_enter Try.func15, Try.ntmps15
    go_wp2_with fail
    refine (szProblem_any (w0 := w) a0 (by omega) (by omega)).mono ?_
    rw [gl0.out]; rintro e w1 ⟨rfl, hb⟩
    have x0 : w1.cell? ⟨w.heap.size, 0, none⟩ = some (.slice f0a M0.length c0a) := hb.cell (by go_simp)
    have x1 : w1.cell? ⟨w.heap.size, 1, none⟩ = some (.slice f0b S0.length c0b) := hb.cell (by go_simp)
    have e1 : Ext w w1 := Ext.trans inferInstance hb
    clear hb
    replace a0 := a0.ext (w' := w1)
    go_wp2_with fail
    refine (toProblem_any (w0 := w1) a0).mono ?_
    rintro e w2 ⟨s0_d, s0_m, s0_vs, s0_d2, s0_m2, s0_vs2, rfl, s0_l, s0_l2, s0_own, hb⟩
    have s0 := s0_own.prob' s0_l s0_l2 a0
    clear s0_own
    have hbw2 : Ext w1 w2 := Ext.trans inferInstance hb
    replace x0 := hbw2.cell x0
    replace x1 := hbw2.cell x1
    replace a0 := a0.ext (w' := w2)
    replace e1 := Ext.trans e1 hbw2
    go_wp2_with fail
    refine (specOffSteps_any (w0 := w2) s0 a1).mono ?_
    rintro e w3 ⟨z0_d, z0_m, z1_d, z1_m, rfl, z0, z1, hb⟩
    have hbw3 : Ext w2 w3 := Ext.trans inferInstance hb
    replace x0 := hbw3.cell x0
    replace x1 := hbw3.cell x1
    replace a0 := a0.ext (w' := w3)
    replace s0 := s0.ext (w' := w3)
    replace e1 := Ext.trans e1 hbw3
    clear s0
    have EB : Ext w3 w3 := Ext.refl w3
    have hBo : w3.heap.size ≤ w3.heap.size := Nat.le_refl _
    have x0_3 := EB.cell x0
    have x1_3 := EB.cell x1
    go_wp2_with fail
    refine (toProblem_any (w0 := w3) a0).mono ?_
    rintro e w4 ⟨x_0_d, x_0_m, x_0_vs, x_0_d2, x_0_m2, x_0_vs2, rfl, x_0_l, x_0_l2, x_0_own, hb⟩
    have x_0 := x_0_own.prob' x_0_l x_0_l2 a0
    have OW := x_0_own
    clear x_0_own
    try simp only [List.append_assoc] at OW
    have hbw4 : Ext w3 w4 := Ext.trans inferInstance hb
    replace EB := Ext.trans EB hbw4
    replace hBo : w3.heap.size ≤ w4.heap.size := EB.size
    go_wp2_with fail
    refine (implOffSteps_any (w0 := w4) x_0 a1).mono ?_
    rintro e w5 ⟨g0_d, g0_m, g0_vs, g1_d, g1_m, g1_vs, rfl, g0_l, g1_l, g_own, hb⟩
    replace OW := Own.add g_own OW hb hBo
    clear g_own
    try simp only [List.append_assoc] at OW
    have hbw5 : Ext w4 w5 := Ext.trans inferInstance hb
    have y0 : w5.cell? ⟨w4.heap.size, 0, none⟩ = some (.slice x_0_d M0.length x_0_m) := hb.cell (by go_simp)
    have y1 : w5.cell? ⟨w4.heap.size, 1, none⟩ = some (.slice x_0_d2 S0.length x_0_m2) := hb.cell (by go_simp)
    replace x_0 := x_0.ext (w' := w5)
    replace EB := Ext.trans EB hbw5
    replace hBo : w3.heap.size ≤ w5.heap.size := EB.size
    have hbd0 := hid (stepsL_len (M := M0) (S := S0) (s := n1))
    generalize hr0 : (stepsL M0 S0 n1) = r0 at *
    replace hr0 := hid hr0
    have hq0 := hid (show eqR r0 r0 = true from eqR_iff.2 rfl)
    have hbd1 := hid (growsL_len (M := M0) (S := S0) (s := n1))
    generalize hr1 : (growsL M0 S0 n1) = r1 at *
    replace hr1 := hid hr1
    have hq1 := hid (show eqR r1 r1 = true from eqR_iff.2 rfl)
    generalize hr2 : (offB M0 S0 n1) = r2 at *
    replace hr2 := hid hr2
    have hn2 : (r2 != r2) = false := by simp
    have EX : Ext w5 w5 := Ext.refl w5
    replace OW := Own.nilr OW
    simp only [List.append_assoc] at OW
    have rd0_5 := OW.readsAll2 g0_l z0
    go_wp2_with fail
    refine (eqIntSS_any (w0 := w5) rd0_5 (z0.ext (w' := w5))).mono ?_
    rw [hq0.out]
    rintro e w6 ⟨rfl, hdr⟩
    have hb := hdr.ext
    clear hdr
    have hbw6 : Ext w5 w6 := Ext.trans inferInstance hb
    replace y0 := hbw6.cell y0
    replace y1 := hbw6.cell y1
    replace EB := Ext.trans EB hbw6
    replace EX := Ext.trans EX hbw6
    replace OW := OW.ext (w' := w6)
    replace OW := Own.rot OW
    simp only [List.append_assoc] at OW
    have rd1_6 := OW.readsAll2 g1_l z1
    go_wp2_with fail
    refine (eqIntSS_any (w0 := w6) rd1_6 (z1.ext (w' := w6))).mono ?_
    rw [hq1.out]
    rintro e w7 ⟨rfl, hdr⟩
    have hb := hdr.ext
    clear hdr
    have hbw7 : Ext w6 w7 := Ext.trans inferInstance hb
    replace y0 := hbw7.cell y0
    replace y1 := hbw7.cell y1
    replace EB := Ext.trans EB hbw7
    replace EX := Ext.trans EX hbw7
    replace OW := OW.ext (w' := w7)
    have x0_7 := EB.cell x0
    have x1_7 := EB.cell x1
    go_upto_region 10 with fail
    go_cut [60] (fun q wx => q = .bool false ∧ Ext w7 wx)
    case first =>
      go_region_with (first
        | (go_at_call 20; refine (toProblem_any (w0 := w3) a0).mono ?_; rintro e wq ⟨qd, qm, qvs, qd2, qm2, qvs2, rfl, ql, ql2, qown, hq⟩; have pq := qown.prob' ql ql2 a0; have eq : Ext w7 wq := Ext.trans inferInstance hq; have y0' := eq.cell y0; have y1' := eq.cell y1; have EXq := Ext.trans EX eq)
        | (go_at_call 22; refine (eqProblem_any (w0 := wq) (x_0.ext (w' := wq)) pq).mono ?_; rw [heq.out]; rintro e wq2 ⟨rfl, hq2⟩))
      all_goals
        go_wp2_with fail
        go_meet
        exact ⟨rfl, Ext.trans eq hq2⟩
    case rest =>
      obtain ⟨rfl, hbc⟩ := hcut
      have hb : Ext w7 wc := hbc
      clear hbc
      obtain ⟨w8, rfl⟩ : ∃ x : World, x = wc := ⟨_, rfl⟩
      have hbw8 : Ext w7 w8 := Ext.trans inferInstance hb
      replace y0 := hbw8.cell y0
      replace y1 := hbw8.cell y1
      replace EB := Ext.trans EB hbw8
      replace EX := Ext.trans EX hbw8
      replace OW := OW.ext (w' := w8)
      -- the marks
      replace hBo : w3.heap.size ≤ w8.heap.size := EB.size
      have hsz0 := hsm0.out
      go_wp2_with fail
      replace OW := Own.rot OW
      simp only [List.append_assoc] at OW
      refine (markProblem_any (k := 1) OW x_0_l x_0_l2 hBo (by omega) (by omega) (by omega) (by omega) (by omega) (by omega)).mono ?_
      rintro e w9 ⟨rfl, OW', hbm⟩
      replace OW := OW'
      clear OW'
      replace EB := Ext.mark EB hbm
      clear hbm
      replace hBo : w3.heap.size ≤ w9.heap.size := EB.size
      obtain ⟨k1, hk1, hk1a, hk1b⟩ : ∃ x : Int, 1 + sumLen M0 + sumLen S0 = x ∧ 0 ≤ x ∧ x ≤ 1048577 := ⟨_, rfl, by omega, by omega⟩
      rw [hk1]
      clear hk1
      replace OW := Own.rot OW
      simp only [List.append_assoc] at OW
      replace OW := Own.rot OW
      simp only [List.append_assoc] at OW
      replace OW := Own.rot OW
      simp only [List.append_assoc] at OW
      have rd0_9 := OW.readsAll2 g0_l z0
      go_wp2_with fail
      refine (eqIntSS_any (w0 := w9) rd0_9 (z0.ext (w' := w9))).mono ?_
      rw [hq0.out]
      rintro e w10 ⟨rfl, hdr⟩
      have hb := hdr.ext
      clear hdr
      have hbw10 : Ext w9 w10 := Ext.trans inferInstance hb
      replace EB := Ext.trans EB hbw10
      replace OW := OW.ext (w' := w10)
      replace hBo : w3.heap.size ≤ w10.heap.size := EB.size
      replace OW := Own.rot OW
      simp only [List.append_assoc] at OW
      have rd1_10 := OW.readsAll2 g1_l z1
      go_wp2_with fail
      refine (eqIntSS_any (w0 := w10) rd1_10 (z1.ext (w' := w10))).mono ?_
      rw [hq1.out]
      rintro e w11 ⟨rfl, hdr⟩
      have hb := hdr.ext
      clear hdr
      have hbw11 : Ext w10 w11 := Ext.trans inferInstance hb
      replace EB := Ext.trans EB hbw11
      replace OW := OW.ext (w' := w11)
      replace hBo : w3.heap.size ≤ w11.heap.size := EB.size
      -- the marks in the results
      have hbq0 := hbd0.out
      have hbq1 := hbd1.out
      go_wp2_with fail
      replace OW := Own.rot OW
      simp only [List.append_assoc] at OW
      replace OW := Own.rot OW
      simp only [List.append_assoc] at OW
      replace OW := Own.rot OW
      simp only [List.append_assoc] at OW
      replace OW := Own.rot OW
      simp only [List.append_assoc] at OW
      refine (markIntSS_any (k := 1) OW g0_l hBo (by omega) (by omega) (by omega) (by omega)).mono ?_
      rintro e w12 ⟨rfl, OW', hbm⟩
      replace OW := OW'
      clear OW'
      replace EB := Ext.mark EB hbm
      clear hbm
      replace hBo : w3.heap.size ≤ w12.heap.size := EB.size
      obtain ⟨m1, hm1, hm1a, hm1b⟩ : ∃ x : Int, 1 + sumLen r0 = x ∧ 0 ≤ x ∧ x ≤ 2000001 := ⟨_, rfl, by omega, by omega⟩
      rw [hm1]
      go_wp2_with fail
      replace OW := Own.rot OW
      simp only [List.append_assoc] at OW
      refine (markIntSS_any (k := m1) OW g1_l hBo (by omega) (by omega) (by omega) (by omega)).mono ?_
      rintro e w13 ⟨rfl, OW', hbm⟩
      replace OW := OW'
      clear OW'
      replace EB := Ext.mark EB hbm
      clear hbm
      replace hBo : w3.heap.size ≤ w13.heap.size := EB.size
      obtain ⟨m2, hm2, hm2a, hm2b⟩ : ∃ x : Int, m1 + sumLen r1 = x ∧ 0 ≤ x ∧ x ≤ 4000001 := ⟨_, rfl, by omega, by omega⟩
      rw [hm2]
      have hmm : (m2 != m2) = false := by simp
      go_wp2_with fail
      replace OW := Own.rot OW
      simp only [List.append_assoc] at OW
      replace OW := Own.rot OW
      simp only [List.append_assoc] at OW
      replace OW := Own.rot OW
      simp only [List.append_assoc] at OW
      replace OW := Own.rot OW
      simp only [List.append_assoc] at OW
      have hd0_13 := OW.readsMark g0_l (by omega) (by omega) (by have := hbd0.out; omega) (by have := hbd0.out; omega)
      refine (heldIntSS_any (w0 := w13) (k := 1) hd0_13 (by rw [markR_sumLen]; omega) (by rw [markR_length]; omega) (by omega) (by omega)).mono ?_
      rw [heldR_mark, hm1]
      rintro e w14 ⟨rfl, hdr⟩
      have hb := hdr.ext
      clear hdr
      have hbw14 : Ext w13 w14 := Ext.trans inferInstance hb
      replace EB := Ext.trans EB hbw14
      replace OW := OW.ext (w' := w14)
      go_wp2_with fail
      replace OW := Own.rot OW
      simp only [List.append_assoc] at OW
      have hd1_14 := OW.readsMark g1_l (by omega) (by omega) (by have := hbd1.out; omega) (by have := hbd1.out; omega)
      refine (heldIntSS_any (w0 := w14) (k := m1) hd1_14 (by rw [markR_sumLen]; omega) (by rw [markR_length]; omega) (by omega) (by omega)).mono ?_
      rw [heldR_mark, hm2]
      rintro e w15 ⟨rfl, hdr⟩
      have hb := hdr.ext
      clear hdr
      have hbw15 : Ext w14 w15 := Ext.trans inferInstance hb
      replace EB := Ext.trans EB hbw15
      replace OW := OW.ext (w' := w15)
      -- the second call
      have x0_15 := EB.cell x0
      have x1_15 := EB.cell x1
      go_wp2_with fail
      refine (toProblem_any (w0 := w3) a0).mono ?_
      rintro e w16 ⟨t_0_d, t_0_m, t_0_vs, t_0_d2, t_0_m2, t_0_vs2, rfl, t_0_l, t_0_l2, t_0_own, hb⟩
      have t_0 := t_0_own.prob' t_0_l t_0_l2 a0
      clear t_0_own
      have hbw16 : Ext w15 w16 := Ext.trans inferInstance hb
      replace EB := Ext.trans EB hbw16
      replace OW := OW.ext (w' := w16)
      go_wp2_with fail
      refine (implOffSteps_any (w0 := w16) t_0 a1).mono ?_
      rw [hr0.out, hr1.out, hr2.out]
      rintro e w17 ⟨h0_d, h0_m, h0_vs, h1_d, h1_m, h1_vs, rfl, h0_l, h1_l, h_own, hb⟩
      have hbw17 : Ext w16 w17 := Ext.trans inferInstance hb
      replace t_0 := t_0.ext (w' := w17)
      replace EB := Ext.trans EB hbw17
      replace OW := OW.ext (w' := w17)
      have h_own0 := h_own
      have hh0 := h_own.readsAll2 h0_l z0
      replace h_own := h_own.right
      have h_own1 := h_own
      have hh1 := h_own.readsAll' h1_l z1
      have EH : Ext w17 w17 := Ext.refl w17
      go_wp2_with fail
      refine (eqIntSS_any (w0 := w17) (hh0.ext (w' := w17)) (z0.ext (w' := w17))).mono ?_
      rw [hq0.out]
      rintro e w18 ⟨rfl, hdr⟩
      have hb := hdr.ext
      clear hdr
      have hbw18 : Ext w17 w18 := Ext.trans inferInstance hb
      replace EB := Ext.trans EB hbw18
      replace EH := Ext.trans EH hbw18
      replace OW := OW.ext (w' := w18)
      go_wp2_with fail
      refine (eqIntSS_any (w0 := w18) (hh1.ext (w' := w18)) (z1.ext (w' := w18))).mono ?_
      rw [hq1.out]
      rintro e w19 ⟨rfl, hdr⟩
      have hb := hdr.ext
      clear hdr
      have hbw19 : Ext w18 w19 := Ext.trans inferInstance hb
      replace EB := Ext.trans EB hbw19
      replace EH := Ext.trans EH hbw19
      replace OW := OW.ext (w' := w19)
      go_wp2_with fail
      replace OW := Own.rot OW
      simp only [List.append_assoc] at OW
      replace OW := Own.rot OW
      simp only [List.append_assoc] at OW
      replace OW := Own.rot OW
      simp only [List.append_assoc] at OW
      replace OW := Own.rot OW
      simp only [List.append_assoc] at OW
      have hd0_19 := OW.readsMark g0_l (by omega) (by omega) (by have := hbd0.out; omega) (by have := hbd0.out; omega)
      refine (heldIntSS_any (w0 := w19) (k := 1) hd0_19 (by rw [markR_sumLen]; omega) (by rw [markR_length]; omega) (by omega) (by omega)).mono ?_
      rw [heldR_mark, hm1]
      rintro e w20 ⟨rfl, hdr⟩
      have hb := hdr.ext
      clear hdr
      have hbw20 : Ext w19 w20 := Ext.trans inferInstance hb
      replace EB := Ext.trans EB hbw20
      replace EH := Ext.trans EH hbw20
      replace OW := OW.ext (w' := w20)
      go_wp2_with fail
      replace OW := Own.rot OW
      simp only [List.append_assoc] at OW
      have hd1_20 := OW.readsMark g1_l (by omega) (by omega) (by have := hbd1.out; omega) (by have := hbd1.out; omega)
      refine (heldIntSS_any (w0 := w20) (k := m1) hd1_20 (by rw [markR_sumLen]; omega) (by rw [markR_length]; omega) (by omega) (by omega)).mono ?_
      rw [heldR_mark, hm2]
      rintro e w21 ⟨rfl, hdr⟩
      have hb := hdr.ext
      clear hdr
      have hbw21 : Ext w20 w21 := Ext.trans inferInstance hb
      replace EB := Ext.trans EB hbw21
      replace EH := Ext.trans EH hbw21
      replace OW := OW.ext (w' := w21)
      go_wp2_with fail
      go_ret
      exact ⟨rfl, Ext.trans e1 EB⟩

end Go.Proofs.Ytbclgdajgaljkaa
