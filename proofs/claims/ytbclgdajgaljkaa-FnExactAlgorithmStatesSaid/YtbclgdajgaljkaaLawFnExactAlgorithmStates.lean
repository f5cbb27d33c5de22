/- 'laws.FnExactAlgorithmStates' walked: it returns true for every input. Written by lawgen2.py. -/
import Derived.Test.YtbclgdajgaljkaaAlgS
import Derived.Test.YtbclgdajgaljkaaMark
import Derived.Deep.RegionWith
import Derived.Deep.Cut
import Derived.Deep.DeepCutAuto
namespace Go.Proofs.Ytbclgdajgaljkaa
open Go.RowKit

set_option maxHeartbeats 3200000 in
set_option maxRecDepth 100000 in
theorem lawFnExactAlgorithmStates_any {v0 : Value} {M0 S0 : List (List Int)} {v1 : Value} {X1 : List (List Int)} {n2 : Int} {v3 : Value} {X3 : List Int} {w : World} (a0 : IsProb w v0 M0 S0) (a1 : IsRows w v1 X1) (a2 : I64 n2) (a3 : IsInts w v3 X3) :
    Calls Try.prog 9 #[v0, v1, .int .i64 n2, v3] w fun e w' => e = .returned (.bool true) ∧ Ext w w' := by
  have b0 := a0
  obtain ⟨v0a, v0b, rfl, hM0, hS0⟩ := b0
  obtain ⟨f0a, c0a, rfl, l0a⟩ := hM0.form
  obtain ⟨f0b, c0b, rfl, l0b⟩ := hS0.form
  clear hM0 hS0
  obtain ⟨f1, c1, rfl, l1⟩ := a1.form
  obtain ⟨f3, c3, rfl, l3⟩ := a3.form
  by_cases g3 : (1048576 : Int) < X3.length
  · have g3' : decide ((1048576 : Int) < X3.length) = true := by simpa using g3
    go_enter Try.func9, Try.ntmps9
    go_wp2_with fail
    go_ret
    exact ⟨rfl, inferInstance⟩
  · have g3' : decide ((1048576 : Int) < X3.length) = false := by simpa using g3
    by_cases g0 : (1048576 : Int) - ((M0.length + sumLen M0 + (S0.length + sumLen S0)) : Nat) < 0
    · have gl0 := hid (show leftOf 1048576 (M0.length + sumLen M0 + (S0.length + sumLen S0)) = -1 by rw [leftOf, if_pos g0])
      go_enter Try.func9, Try.ntmps9
      go_wp2_with fail
      refine (szProblem_any (w0 := w) a0 (by omega) (by omega)).mono ?_
      rw [gl0.out]; rintro e wz ⟨rfl, hb⟩
      go_wp2_with fail
      go_ret
      exact ⟨rfl, Ext.trans inferInstance hb⟩
    · have gl0 := hid (show leftOf 1048576 (M0.length + sumLen M0 + (S0.length + sumLen S0)) = 1048576 - ((M0.length + sumLen M0 + (S0.length + sumLen S0)) : Nat) by rw [leftOf, if_neg g0])
      have gn0 : 0 ≤ (1048576 : Int) - ((M0.length + sumLen M0 + (S0.length + sumLen S0)) : Nat) := by omega
      have gm0 : (1048576 : Int) - ((M0.length + sumLen M0 + (S0.length + sumLen S0)) : Nat) ≤ 1048576 := by omega
      have hsm0 : (M0.length + sumLen M0 + (S0.length + sumLen S0)) ≤ 1048576 := by omega
      generalize hz0 : (1048576 : Int) - ((M0.length + sumLen M0 + (S0.length + sumLen S0)) : Nat) = z0 at *
      replace hz0 := hid hz0
      clear g0
      replace hsm0 := hid hsm0
      by_cases g1 : (z0 : Int) - ((X1.length + sumLen X1) : Nat) < 0
      · have gl1 := hid (show leftOf z0 (X1.length + sumLen X1) = -1 by rw [leftOf, if_pos g1])
        go_enter Try.func9, Try.ntmps9
        go_wp2_with fail
        refine (szProblem_any (w0 := w) a0 (by omega) (by omega)).mono ?_
        rw [gl0.out]; rintro e w1 ⟨rfl, hb⟩
        have x0 : w1.cell? ⟨w.heap.size, 0, none⟩ = some (.slice f0a M0.length c0a) := hb.cell (by go_simp)
        have x1 : w1.cell? ⟨w.heap.size, 1, none⟩ = some (.slice f0b S0.length c0b) := hb.cell (by go_simp)
        have e1 : Ext w w1 := Ext.trans inferInstance hb
        clear hb
        go_wp2_with fail
        refine (szIntSS_any (w0 := w) a1 (by omega) (by omega)).mono ?_
        rw [gl1.out]; rintro e wz ⟨rfl, hwz⟩; rw [hwz]; clear hwz
        go_wp2_with fail
        go_ret
        exact ⟨rfl, e1⟩
      · have gl1 := hid (show leftOf z0 (X1.length + sumLen X1) = z0 - ((X1.length + sumLen X1) : Nat) by rw [leftOf, if_neg g1])
        have gn1 : 0 ≤ (z0 : Int) - ((X1.length + sumLen X1) : Nat) := by omega
        have gm1 : (z0 : Int) - ((X1.length + sumLen X1) : Nat) ≤ 1048576 := by omega
        have hsm1 : (X1.length + sumLen X1) ≤ 1048576 := by omega
        generalize hz1 : (z0 : Int) - ((X1.length + sumLen X1) : Nat) = z1 at *
        replace hz1 := hid hz1
        clear g1
        replace hsm1 := hid hsm1
        -- all sizes are right
        have heq := hid (show eqP M0 S0 M0 S0 = true from eqP_iff.2 ⟨rfl, rfl⟩)
        have heq1 := hid (show eqR X1 X1 = true from eqR_iff.2 rfl)
        have heq3 := hid (show eqL X3 X3 = true from eqL_iff.2 rfl)
        go_enter Try.func9, Try.ntmps9
        go_wp2_with fail
        refine (szProblem_any (w0 := w) a0 (by omega) (by omega)).mono ?_
        rw [gl0.out]; rintro e w1 ⟨rfl, hb⟩
        have x0 : w1.cell? ⟨w.heap.size, 0, none⟩ = some (.slice f0a M0.length c0a) := hb.cell (by go_simp)
        have x1 : w1.cell? ⟨w.heap.size, 1, none⟩ = some (.slice f0b S0.length c0b) := hb.cell (by go_simp)
        have e1 : Ext w w1 := Ext.trans inferInstance hb
        clear hb
        go_wp2_with fail
        refine (szIntSS_any (w0 := w) a1 (by omega) (by omega)).mono ?_
        rw [gl1.out]; rintro e wz ⟨rfl, hwz⟩; rw [hwz]; clear hwz
        replace a0 := a0.ext (w' := w1)
        replace a1 := a1.ext (w' := w1)
        replace a3 := a3.ext (w' := w1)
        go_wp2_with fail
        refine (toProblem_any (w0 := w1) a0).mono ?_
        rintro e w2 ⟨s0_d, s0_m, s0_vs, s0_d2, s0_m2, s0_vs2, rfl, s0_l, s0_l2, s0_own, hb⟩
        have s0 := s0_own.prob' s0_l s0_l2 a0
        clear s0_own
        have hbw2 : Ext w1 w2 := Ext.trans inferInstance hb
        replace x0 := hbw2.cell x0
        replace x1 := hbw2.cell x1
        replace a0 := a0.ext (w' := w2)
        replace a1 := a1.ext (w' := w2)
        replace a3 := a3.ext (w' := w2)
        replace e1 := Ext.trans e1 hbw2
        go_wp2_with fail
        refine (toIntSS_any (w0 := w2) a1).mono ?_
        rintro e w3 ⟨s1_d, s1_m, s1_vs, rfl, s1_l, s1_own, hb⟩
        have s1 := s1_own.readsAll' s1_l a1
        clear s1_own
        have hbw3 : Ext w2 w3 := Ext.trans inferInstance hb
        replace x0 := hbw3.cell x0
        replace x1 := hbw3.cell x1
        replace a0 := a0.ext (w' := w3)
        replace a1 := a1.ext (w' := w3)
        replace a3 := a3.ext (w' := w3)
        replace s0 := s0.ext (w' := w3)
        replace e1 := Ext.trans e1 hbw3
        go_wp2_with fail
        refine (toIntS_any (w0 := w3) a3).mono ?_
        rintro e w4 ⟨s3_d, s3_m, rfl, s3_own, hb⟩
        have s3 := s3_own.reads' a3
        clear s3_own
        have hbw4 : Ext w3 w4 := Ext.trans inferInstance hb
        replace x0 := hbw4.cell x0
        replace x1 := hbw4.cell x1
        replace a0 := a0.ext (w' := w4)
        replace a1 := a1.ext (w' := w4)
        replace a3 := a3.ext (w' := w4)
        replace s0 := s0.ext (w' := w4)
        replace s1 := s1.ext (w' := w4)
        replace e1 := Ext.trans e1 hbw4
        go_wp2_with fail
        refine (specAlgStates_any (w0 := w4) s0 s1 a2 s3).mono ?_
        rintro e w5 ⟨z0_d, z0_m, rfl, z0, hb⟩
        have hbw5 : Ext w4 w5 := Ext.trans inferInstance hb
        replace x0 := hbw5.cell x0
        replace x1 := hbw5.cell x1
        replace a0 := a0.ext (w' := w5)
        replace a1 := a1.ext (w' := w5)
        replace a3 := a3.ext (w' := w5)
        replace s0 := s0.ext (w' := w5)
        replace s1 := s1.ext (w' := w5)
        replace s3 := s3.ext (w' := w5)
        replace e1 := Ext.trans e1 hbw5
        clear s0 s1 s3
        have EB : Ext w5 w5 := Ext.refl w5
        have hBo : w5.heap.size ≤ w5.heap.size := Nat.le_refl _
        have x0_5 := EB.cell x0
        have x1_5 := EB.cell x1
        go_wp2_with fail
        refine (toProblem_any (w0 := w5) a0).mono ?_
        rintro e w6 ⟨x_0_d, x_0_m, x_0_vs, x_0_d2, x_0_m2, x_0_vs2, rfl, x_0_l, x_0_l2, x_0_own, hb⟩
        have x_0 := x_0_own.prob' x_0_l x_0_l2 a0
        have OW := x_0_own
        clear x_0_own
        try simp only [List.append_assoc] at OW
        have hbw6 : Ext w5 w6 := Ext.trans inferInstance hb
        replace EB := Ext.trans EB hbw6
        replace hBo : w5.heap.size ≤ w6.heap.size := EB.size
        go_wp2_with fail
        refine (toIntSS_any (w0 := w5) a1).mono ?_
        rintro e w7 ⟨x_1_d, x_1_m, x_1_vs, rfl, x_1_l, x_1_own, hb⟩
        have x_1 := x_1_own.readsAll' x_1_l a1
        replace OW := Own.add x_1_own OW hb hBo
        clear x_1_own
        try simp only [List.append_assoc] at OW
        have hbw7 : Ext w6 w7 := Ext.trans inferInstance hb
        have y0 : w7.cell? ⟨w6.heap.size, 0, none⟩ = some (.slice x_0_d M0.length x_0_m) := hb.cell (by go_simp)
        have y1 : w7.cell? ⟨w6.heap.size, 1, none⟩ = some (.slice x_0_d2 S0.length x_0_m2) := hb.cell (by go_simp)
        replace x_0 := x_0.ext (w' := w7)
        replace EB := Ext.trans EB hbw7
        replace hBo : w5.heap.size ≤ w7.heap.size := EB.size
        go_wp2_with fail
        refine (toIntS_any (w0 := w5) a3).mono ?_
        rintro e w8 ⟨x_3_d, x_3_m, rfl, x_3_own, hb⟩
        have x_3 := x_3_own.reads' a3
        replace OW := Own.add x_3_own OW hb hBo
        clear x_3_own
        try simp only [List.append_assoc] at OW
        have hbw8 : Ext w7 w8 := Ext.trans inferInstance hb
        replace y0 := hbw8.cell y0
        replace y1 := hbw8.cell y1
        replace x_0 := x_0.ext (w' := w8)
        replace x_1 := x_1.ext (w' := w8)
        replace EB := Ext.trans EB hbw8
        replace hBo : w5.heap.size ≤ w8.heap.size := EB.size
        go_wp2_with fail
        refine (implAlgStates_any (w0 := w8) x_0 x_1 a2 x_3).mono ?_
        rintro e w9 ⟨g0_d, g0_m, rfl, g_own, hb⟩
        replace OW := Own.add g_own OW hb hBo
        clear g_own
        try simp only [List.append_assoc] at OW
        have hbw9 : Ext w8 w9 := Ext.trans inferInstance hb
        replace y0 := hbw9.cell y0
        replace y1 := hbw9.cell y1
        replace x_0 := x_0.ext (w' := w9)
        replace x_1 := x_1.ext (w' := w9)
        replace x_3 := x_3.ext (w' := w9)
        replace EB := Ext.trans EB hbw9
        replace hBo : w5.heap.size ≤ w9.heap.size := EB.size
        have hbd0 := hid (statesA_len (M := M0) (S := S0) (N := X1) (s := n2) (X := X3))
        generalize hr0 : (statesA M0 S0 X1 n2 X3) = r0 at *
        replace hr0 := hid hr0
        have hq0 := hid (show eqL r0 r0 = true from eqL_iff.2 rfl)
        generalize hr1 : (algOk M0 S0 X1 n2 X3) = r1 at *
        replace hr1 := hid hr1
        have hn1 : (r1 != r1) = false := by simp
        have EX : Ext w9 w9 := Ext.refl w9
        replace OW := Own.nilr OW
        simp only [List.append_assoc] at OW
        have rd0_9 := (Own.one OW).reads' z0
        go_wp2_with fail
        refine (eqIntS_any (w0 := w9) rd0_9 (z0.ext (w' := w9))).mono ?_
        rw [hq0.out]
        rintro e w10 ⟨rfl, hdr⟩
        have hb := hdr.ext
        clear hdr
        have hbw10 : Ext w9 w10 := Ext.trans inferInstance hb
        replace y0 := hbw10.cell y0
        replace y1 := hbw10.cell y1
        replace EB := Ext.trans EB hbw10
        replace EX := Ext.trans EX hbw10
        replace OW := OW.ext (w' := w10)
        have x0_10 := EB.cell x0
        have x1_10 := EB.cell x1
        go_upto_region 17 with fail
        go_cut [73] (fun q wx => q = .bool false ∧ Ext w10 wx)
        case first =>
          go_region_with (first
            | (go_at_call 20; refine (toProblem_any (w0 := w5) a0).mono ?_; rintro e wq ⟨qd, qm, qvs, qd2, qm2, qvs2, rfl, ql, ql2, qown, hq⟩; have pq := qown.prob' ql ql2 a0; have eq : Ext w10 wq := Ext.trans inferInstance hq; have y0' := eq.cell y0; have y1' := eq.cell y1; have EXq := Ext.trans EX eq)
            | (go_at_call 22; refine (eqProblem_any (w0 := wq) (x_0.ext (w' := wq)) pq).mono ?_; rw [heq.out]; rintro e wq2 ⟨rfl, hq2⟩))
          all_goals
            go_wp2_with fail
            go_meet
            exact ⟨rfl, Ext.trans eq hq2⟩
        case rest =>
          obtain ⟨rfl, hbc⟩ := hcut
          have hb : Ext w10 wc := hbc
          clear hbc
          obtain ⟨w11, rfl⟩ : ∃ x : World, x = wc := ⟨_, rfl⟩
          have hbw11 : Ext w10 w11 := Ext.trans inferInstance hb
          replace y0 := hbw11.cell y0
          replace y1 := hbw11.cell y1
          replace EB := Ext.trans EB hbw11
          replace EX := Ext.trans EX hbw11
          replace OW := OW.ext (w' := w11)
          go_wp2_with fail
          refine (toIntSS_any (w0 := w5) a1).mono ?_
          rintro e w12 ⟨q1_d, q1_m, q1_vs, rfl, q1_l, q1_own, hb⟩
          have q1 := q1_own.readsAll' q1_l a1
          clear q1_own
          have hbw12 : Ext w11 w12 := Ext.trans inferInstance hb
          replace y0 := hbw12.cell y0
          replace y1 := hbw12.cell y1
          replace EB := Ext.trans EB hbw12
          replace EX := Ext.trans EX hbw12
          replace OW := OW.ext (w' := w12)
          go_wp2_with fail
          refine (eqIntSS_any (w0 := w12) (x_1.ext (w' := w12)) q1).mono ?_
          rw [heq1.out]
          rintro e w13 ⟨rfl, hdr⟩
          have hb := hdr.ext
          clear hdr
          have hbw13 : Ext w12 w13 := Ext.trans inferInstance hb
          replace y0 := hbw13.cell y0
          replace y1 := hbw13.cell y1
          replace q1 := q1.ext (w' := w13)
          replace EB := Ext.trans EB hbw13
          replace EX := Ext.trans EX hbw13
          replace OW := OW.ext (w' := w13)
          clear q1
          go_wp2_with fail
          refine (toIntS_any (w0 := w5) a3).mono ?_
          rintro e w14 ⟨q3_d, q3_m, rfl, q3_own, hb⟩
          have q3 := q3_own.reads' a3
          clear q3_own
          have hbw14 : Ext w13 w14 := Ext.trans inferInstance hb
          replace y0 := hbw14.cell y0
          replace y1 := hbw14.cell y1
          replace EB := Ext.trans EB hbw14
          replace EX := Ext.trans EX hbw14
          replace OW := OW.ext (w' := w14)
          go_wp2_with fail
          refine (eqIntS_any (w0 := w14) (x_3.ext (w' := w14)) q3).mono ?_
          rw [heq3.out]
          rintro e w15 ⟨rfl, hdr⟩
          have hb := hdr.ext
          clear hdr
          have hbw15 : Ext w14 w15 := Ext.trans inferInstance hb
          replace y0 := hbw15.cell y0
          replace y1 := hbw15.cell y1
          replace q3 := q3.ext (w' := w15)
          replace EB := Ext.trans EB hbw15
          replace EX := Ext.trans EX hbw15
          replace OW := OW.ext (w' := w15)
          clear q3
          -- the marks
          replace hBo : w5.heap.size ≤ w15.heap.size := EB.size
          have hsz0 := hsm0.out
          have hsz1 := hsm1.out
          have hsz3 := (show X3.length ≤ 1048576 by omega)
          go_wp2_with fail
          replace OW := Own.rot OW
          simp only [List.append_assoc] at OW
          replace OW := Own.rot OW
          simp only [List.append_assoc] at OW
          replace OW := Own.rot OW
          simp only [List.append_assoc] at OW
          refine (markProblem_any (k := 1) OW x_0_l x_0_l2 hBo (by omega) (by omega) (by omega) (by omega) (by omega) (by omega)).mono ?_
          rintro e w16 ⟨rfl, OW', hbm⟩
          replace OW := OW'
          clear OW'
          replace EB := Ext.mark EB hbm
          clear hbm
          replace hBo : w5.heap.size ≤ w16.heap.size := EB.size
          obtain ⟨k1, hk1, hk1a, hk1b⟩ : ∃ x : Int, 1 + sumLen M0 + sumLen S0 = x ∧ 0 ≤ x ∧ x ≤ 1048577 := ⟨_, rfl, by omega, by omega⟩
          rw [hk1]
          clear hk1
          go_wp2_with fail
          replace OW := Own.rot OW
          simp only [List.append_assoc] at OW
          replace OW := Own.rot OW
          simp only [List.append_assoc] at OW
          replace OW := Own.rot OW
          simp only [List.append_assoc] at OW
          replace OW := Own.rot OW
          simp only [List.append_assoc] at OW
          replace OW := Own.rot OW
          simp only [List.append_assoc] at OW
          refine (markIntSS_any (k := k1) OW x_1_l hBo (by omega) (by omega) (by omega) (by omega)).mono ?_
          rintro e w17 ⟨rfl, OW', hbm⟩
          replace OW := OW'
          clear OW'
          replace EB := Ext.mark EB hbm
          clear hbm
          replace hBo : w5.heap.size ≤ w17.heap.size := EB.size
          obtain ⟨k2, hk2, hk2a, hk2b⟩ : ∃ x : Int, k1 + sumLen X1 = x ∧ 0 ≤ x ∧ x ≤ 2097153 := ⟨_, rfl, by omega, by omega⟩
          rw [hk2]
          clear hk2
          go_wp2_with fail
          replace OW := Own.rot OW
          simp only [List.append_assoc] at OW
          replace OW := Own.rot OW
          simp only [List.append_assoc] at OW
          replace OW := Own.rot OW
          simp only [List.append_assoc] at OW
          replace OW := Own.rot OW
          simp only [List.append_assoc] at OW
          replace OW := Own.rot OW
          simp only [List.append_assoc] at OW
          refine (markIntS_any (k := k2) (Own.one OW) hBo (by omega) (by omega) (by omega)).mono ?_
          rintro e w18 ⟨rfl, OW', hbm⟩
          replace OW' := Own.eno OW'
          replace OW := OW'
          clear OW'
          replace EB := Ext.mark EB hbm
          clear hbm
          replace hBo : w5.heap.size ≤ w18.heap.size := EB.size
          obtain ⟨k3, hk3, hk3a, hk3b⟩ : ∃ x : Int, k2 + X3.length = x ∧ 0 ≤ x ∧ x ≤ 3145729 := ⟨_, rfl, by omega, by omega⟩
          rw [hk3]
          clear hk3
          replace OW := Own.rot OW
          simp only [List.append_assoc] at OW
          replace OW := Own.rot OW
          simp only [List.append_assoc] at OW
          replace OW := Own.rot OW
          simp only [List.append_assoc] at OW
          replace OW := Own.rot OW
          simp only [List.append_assoc] at OW
          replace OW := Own.rot OW
          simp only [List.append_assoc] at OW
          have rd0_18 := (Own.one OW).reads' z0
          go_wp2_with fail
          refine (eqIntS_any (w0 := w18) rd0_18 (z0.ext (w' := w18))).mono ?_
          rw [hq0.out]
          rintro e w19 ⟨rfl, hdr⟩
          have hb := hdr.ext
          clear hdr
          have hbw19 : Ext w18 w19 := Ext.trans inferInstance hb
          replace EB := Ext.trans EB hbw19
          replace OW := OW.ext (w' := w19)
          replace hBo : w5.heap.size ≤ w19.heap.size := EB.size
          -- the marks in the results
          have hbq0 := hbd0.out
          go_wp2_with fail
          refine (markIntS_any (k := 1) (Own.one OW) hBo (by omega) (by omega) (by omega)).mono ?_
          rintro e w20 ⟨rfl, OW', hbm⟩
          replace OW' := Own.eno OW'
          replace OW := OW'
          clear OW'
          replace EB := Ext.mark EB hbm
          clear hbm
          replace hBo : w5.heap.size ≤ w20.heap.size := EB.size
          obtain ⟨m1, hm1, hm1a, hm1b⟩ : ∃ x : Int, 1 + r0.length = x ∧ 0 ≤ x ∧ x ≤ 4000001 := ⟨_, rfl, by omega, by omega⟩
          rw [hm1]
          have hmm : (m1 != m1) = false := by simp
          go_wp2_with fail
          have hd0_20 := (Own.one OW).readsIota (by omega) (by omega) hbd0.out
          refine (heldIntS_any (w0 := w20) (k := 1) hd0_20 (by omega) (by omega)).mono ?_
          rw [heldK_iota, hm1]
          rintro e w21 ⟨rfl, hdr⟩
          have hb := hdr.ext
          clear hdr
          have hbw21 : Ext w20 w21 := Ext.trans inferInstance hb
          replace EB := Ext.trans EB hbw21
          replace OW := OW.ext (w' := w21)
          -- the second call
          have x0_21 := EB.cell x0
          have x1_21 := EB.cell x1
          go_wp2_with fail
          refine (toProblem_any (w0 := w5) a0).mono ?_
          rintro e w22 ⟨t_0_d, t_0_m, t_0_vs, t_0_d2, t_0_m2, t_0_vs2, rfl, t_0_l, t_0_l2, t_0_own, hb⟩
          have t_0 := t_0_own.prob' t_0_l t_0_l2 a0
          clear t_0_own
          have hbw22 : Ext w21 w22 := Ext.trans inferInstance hb
          replace EB := Ext.trans EB hbw22
          replace OW := OW.ext (w' := w22)
          go_wp2_with fail
          refine (toIntSS_any (w0 := w5) a1).mono ?_
          rintro e w23 ⟨t_1_d, t_1_m, t_1_vs, rfl, t_1_l, t_1_own, hb⟩
          have t_1 := t_1_own.readsAll' t_1_l a1
          clear t_1_own
          have hbw23 : Ext w22 w23 := Ext.trans inferInstance hb
          replace t_0 := t_0.ext (w' := w23)
          replace EB := Ext.trans EB hbw23
          replace OW := OW.ext (w' := w23)
          go_wp2_with fail
          refine (toIntS_any (w0 := w5) a3).mono ?_
          rintro e w24 ⟨t_3_d, t_3_m, rfl, t_3_own, hb⟩
          have t_3 := t_3_own.reads' a3
          clear t_3_own
          have hbw24 : Ext w23 w24 := Ext.trans inferInstance hb
          replace t_0 := t_0.ext (w' := w24)
          replace t_1 := t_1.ext (w' := w24)
          replace EB := Ext.trans EB hbw24
          replace OW := OW.ext (w' := w24)
          go_wp2_with fail
          refine (implAlgStates_any (w0 := w24) t_0 t_1 a2 t_3).mono ?_
          rw [hr0.out, hr1.out]
          rintro e w25 ⟨h0_d, h0_m, rfl, h_own, hb⟩
          have hbw25 : Ext w24 w25 := Ext.trans inferInstance hb
          replace t_0 := t_0.ext (w' := w25)
          replace t_1 := t_1.ext (w' := w25)
          replace t_3 := t_3.ext (w' := w25)
          replace EB := Ext.trans EB hbw25
          replace OW := OW.ext (w' := w25)
          have hh0 := h_own.reads' z0
          have EH : Ext w25 w25 := Ext.refl w25
          go_wp2_with fail
          refine (eqIntS_any (w0 := w25) (hh0.ext (w' := w25)) (z0.ext (w' := w25))).mono ?_
          rw [hq0.out]
          rintro e w26 ⟨rfl, hdr⟩
          have hb := hdr.ext
          clear hdr
          have hbw26 : Ext w25 w26 := Ext.trans inferInstance hb
          replace EB := Ext.trans EB hbw26
          replace EH := Ext.trans EH hbw26
          replace OW := OW.ext (w' := w26)
          go_wp2_with fail
          have hd0_26 := (Own.one OW).readsIota (by omega) (by omega) hbd0.out
          refine (heldIntS_any (w0 := w26) (k := 1) hd0_26 (by omega) (by omega)).mono ?_
          rw [heldK_iota, hm1]
          rintro e w27 ⟨rfl, hdr⟩
          have hb := hdr.ext
          clear hdr
          have hbw27 : Ext w26 w27 := Ext.trans inferInstance hb
          replace EB := Ext.trans EB hbw27
          replace EH := Ext.trans EH hbw27
          replace OW := OW.ext (w' := w27)
          go_wp2_with fail
          go_ret
          exact ⟨rfl, Ext.trans e1 EB⟩

end Go.Proofs.Ytbclgdajgaljkaa
