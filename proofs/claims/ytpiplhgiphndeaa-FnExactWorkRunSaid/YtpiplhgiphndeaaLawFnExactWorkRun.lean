/- 'laws.FnExactWorkRun' walked: it returns true for every input. Written by lawgen2.py. -/
import Derived.Test.YtpiplhgiphndeaaRnI
import Derived.Test.YtpiplhgiphndeaaLawM
import Derived.Test.YtpiplhgiphndeaaGrA
import Derived.Deep.RegionWith
import Derived.Deep.Cut
import Derived.Deep.DeepCutAuto
namespace Go.Proofs.Ytpiplhgiphndeaa
open Go.RowKit

set_option maxHeartbeats 3200000 in
set_option maxRecDepth 100000 in
theorem lawFnExactWorkRun_any {v0 : Value} {M0 : List (List Int)} {v1 : Value} {X1 : List Int} {v2 : Value} {X2 : List Int} {w : World} (a0 : IsMet w v0 M0) (a1 : IsInts w v1 X1) (a2 : IsInts w v2 X2) :
    Calls Try.prog 5 #[v0, v1, v2] w fun e w' => e = .returned (.bool true) ∧ Ext w w' := by
  have b0 := a0
  obtain ⟨v0a, rfl, hM0⟩ := b0
  obtain ⟨f0a, c0a, rfl, l0a⟩ := hM0.form
  clear hM0
  obtain ⟨f1, c1, rfl, l1⟩ := a1.form
  obtain ⟨f2, c2, rfl, l2⟩ := a2.form
  by_cases g1 : (1048576 : Int) < X1.length
  · have g1' : decide ((1048576 : Int) < X1.length) = true := by simpa using g1
    go_enter Try.func5, Try.ntmps5
    go_wp2_with fail
    go_ret
    exact ⟨rfl, inferInstance⟩
  · have g1' : decide ((1048576 : Int) < X1.length) = false := by simpa using g1
    by_cases g2 : (1048576 : Int) < X2.length
    · have g2' : decide ((1048576 : Int) < X2.length) = true := by simpa using g2
      go_enter Try.func5, Try.ntmps5
      go_wp2_with fail
      go_ret
      exact ⟨rfl, inferInstance⟩
    · have g2' : decide ((1048576 : Int) < X2.length) = false := by simpa using g2
      by_cases g0 : (1048576 : Int) - ((M0.length + sumLen M0) : Nat) < 0
      · have gl0 := hid (show leftOf 1048576 (M0.length + sumLen M0) = -1 by rw [leftOf, if_pos g0])
        go_enter Try.func5, Try.ntmps5
        go_wp2_with fail
        refine (szMetric_any (w0 := w) a0 (by omega) (by omega)).mono ?_
        rw [gl0.out]; rintro e wz ⟨rfl, hb⟩
        go_wp2_with fail
        go_ret
        exact ⟨rfl, Ext.trans inferInstance hb⟩
      · have gl0 := hid (show leftOf 1048576 (M0.length + sumLen M0) = 1048576 - ((M0.length + sumLen M0) : Nat) by rw [leftOf, if_neg g0])
        have gn0 : 0 ≤ (1048576 : Int) - ((M0.length + sumLen M0) : Nat) := by omega
        have gm0 : (1048576 : Int) - ((M0.length + sumLen M0) : Nat) ≤ 1048576 := by omega
        have hsm0 : (M0.length + sumLen M0) ≤ 1048576 := by omega
        generalize hz0 : (1048576 : Int) - ((M0.length + sumLen M0) : Nat) = z0 at *
        replace hz0 := hid hz0
        clear g0
        replace hsm0 := hid hsm0
        -- all sizes are right
        have heq := hid (show eqR M0 M0 = true from eqR_iff.2 rfl)
        have heq1 := hid (show eqL X1 X1 = true from eqL_iff.2 rfl)
        have heq2 := hid (show eqL X2 X2 = true from eqL_iff.2 rfl)
        go_enter Try.func5, Try.ntmps5
        go_wp2_with fail
        refine (szMetric_any (w0 := w) a0 (by omega) (by omega)).mono ?_
        rw [gl0.out]; rintro e w1 ⟨rfl, hb⟩
        have x0 : w1.cell? ⟨w.heap.size, 0, none⟩ = some (.slice f0a M0.length c0a) := hb.cell (by go_simp)
        have e1 : Ext w w1 := Ext.trans inferInstance hb
        clear hb
        replace a0 := a0.ext (w' := w1)
        replace a1 := a1.ext (w' := w1)
        replace a2 := a2.ext (w' := w1)
        go_wp2_with fail
        refine (toMetric_any (w0 := w1) a0).mono ?_
        rintro e w2 ⟨s0_d, s0_m, s0_vs, rfl, s0_l, s0_own, hb⟩
        have s0 := s0_own.met' s0_l a0
        clear s0_own
        have hbw2 : Ext w1 w2 := Ext.trans inferInstance hb
        replace x0 := hbw2.cell x0
        replace a0 := a0.ext (w' := w2)
        replace a1 := a1.ext (w' := w2)
        replace a2 := a2.ext (w' := w2)
        replace e1 := Ext.trans e1 hbw2
        go_wp2_with fail
        refine (toIntS_any (w0 := w2) a1).mono ?_
        rintro e w3 ⟨s1_d, s1_m, rfl, s1_own, hb⟩
        have s1 := s1_own.reads' a1
        clear s1_own
        have hbw3 : Ext w2 w3 := Ext.trans inferInstance hb
        replace x0 := hbw3.cell x0
        replace a0 := a0.ext (w' := w3)
        replace a1 := a1.ext (w' := w3)
        replace a2 := a2.ext (w' := w3)
        replace s0 := s0.ext (w' := w3)
        replace e1 := Ext.trans e1 hbw3
        go_wp2_with fail
        refine (toIntS_any (w0 := w3) a2).mono ?_
        rintro e w4 ⟨s2_d, s2_m, rfl, s2_own, hb⟩
        have s2 := s2_own.reads' a2
        clear s2_own
        have hbw4 : Ext w3 w4 := Ext.trans inferInstance hb
        replace x0 := hbw4.cell x0
        replace a0 := a0.ext (w' := w4)
        replace a1 := a1.ext (w' := w4)
        replace a2 := a2.ext (w' := w4)
        replace s0 := s0.ext (w' := w4)
        replace s1 := s1.ext (w' := w4)
        replace e1 := Ext.trans e1 hbw4
        go_wp2_with fail
        refine (specRun_any (w0 := w4) s0 s1 s2).mono ?_
        rintro e w5 ⟨z0_d, z0_m, rfl, z0, hb⟩
        have hbw5 : Ext w4 w5 := Ext.trans inferInstance hb
        replace x0 := hbw5.cell x0
        replace a0 := a0.ext (w' := w5)
        replace a1 := a1.ext (w' := w5)
        replace a2 := a2.ext (w' := w5)
        replace s0 := s0.ext (w' := w5)
        replace s1 := s1.ext (w' := w5)
        replace s2 := s2.ext (w' := w5)
        replace e1 := Ext.trans e1 hbw5
        clear s0 s1 s2
        have EB : Ext w5 w5 := Ext.refl w5
        have hBo : w5.heap.size ≤ w5.heap.size := Nat.le_refl _
        have x0_5 := EB.cell x0
        go_wp2_with fail
        refine (toMetric_any (w0 := w5) a0).mono ?_
        rintro e w6 ⟨x_0_d, x_0_m, x_0_vs, rfl, x_0_l, x_0_own, hb⟩
        have x_0 := x_0_own.met' x_0_l a0
        have OW := x_0_own
        clear x_0_own
        try simp only [List.append_assoc] at OW
        have hbw6 : Ext w5 w6 := Ext.trans inferInstance hb
        replace EB := Ext.trans EB hbw6
        replace hBo : w5.heap.size ≤ w6.heap.size := EB.size
        go_wp2_with fail
        refine (toIntS_any (w0 := w5) a1).mono ?_
        rintro e w7 ⟨x_1_d, x_1_m, rfl, x_1_own, hb⟩
        have x_1 := x_1_own.reads' a1
        replace OW := Own.add x_1_own OW hb hBo
        clear x_1_own
        try simp only [List.append_assoc] at OW
        have hbw7 : Ext w6 w7 := Ext.trans inferInstance hb
        have y0 : w7.cell? ⟨w6.heap.size, 0, none⟩ = some (.slice x_0_d M0.length x_0_m) := hb.cell (by go_simp)
        replace x_0 := x_0.ext (w' := w7)
        replace EB := Ext.trans EB hbw7
        replace hBo : w5.heap.size ≤ w7.heap.size := EB.size
        go_wp2_with fail
        refine (toIntS_any (w0 := w5) a2).mono ?_
        rintro e w8 ⟨x_2_d, x_2_m, rfl, x_2_own, hb⟩
        have x_2 := x_2_own.reads' a2
        replace OW := Own.add x_2_own OW hb hBo
        clear x_2_own
        try simp only [List.append_assoc] at OW
        have hbw8 : Ext w7 w8 := Ext.trans inferInstance hb
        replace y0 := hbw8.cell y0
        replace x_0 := x_0.ext (w' := w8)
        replace x_1 := x_1.ext (w' := w8)
        replace EB := Ext.trans EB hbw8
        replace hBo : w5.heap.size ≤ w8.heap.size := EB.size
        go_wp2_with fail
        refine (implRun_any (w0 := w8) x_0 x_1 x_2).mono ?_
        rintro e w9 ⟨g0_d, g0_m, g0_vs, rfl, g0_l, g_own, hb⟩
        replace OW := Own.add g_own OW hb hBo
        clear g_own
        try simp only [List.append_assoc] at OW
        have hbw9 : Ext w8 w9 := Ext.trans inferInstance hb
        replace y0 := hbw9.cell y0
        replace x_0 := x_0.ext (w' := w9)
        replace x_1 := x_1.ext (w' := w9)
        replace x_2 := x_2.ext (w' := w9)
        replace EB := Ext.trans EB hbw9
        replace hBo : w5.heap.size ≤ w9.heap.size := EB.size
        have hbd0 := hid (rrT_len (M := M0) (a := X1) (X := X2))
        generalize hr0 : (rrT M0 X1 X2) = r0 at *
        replace hr0 := hid hr0
        have hq0 := hid (show eqR r0 r0 = true from eqR_iff.2 rfl)
        generalize hr1 : (rrS M0 X1 X2) = r1 at *
        replace hr1 := hid hr1
        have hn1 : (r1 != r1) = false := by simp
        generalize hr2 : (srvB M0 X1 X2) = r2 at *
        replace hr2 := hid hr2
        have hn2 : (r2 != r2) = false := by simp
        have EX : Ext w9 w9 := Ext.refl w9
        replace OW := Own.nilr OW
        simp only [List.append_assoc] at OW
        have rd0_9 := OW.readsAll2 g0_l z0
        go_wp2_with fail
        refine (eqIntSS_any (w0 := w9) rd0_9 (z0.ext (w' := w9))).mono ?_
        rw [hq0.out]
        rintro e w10 ⟨rfl, hdr⟩
        have hb := hdr.ext
        clear hdr
        have hbw10 : Ext w9 w10 := Ext.trans inferInstance hb
        replace y0 := hbw10.cell y0
        replace EB := Ext.trans EB hbw10
        replace EX := Ext.trans EX hbw10
        replace OW := OW.ext (w' := w10)
        have x0_10 := EB.cell x0
        go_upto_region 16 with fail
        go_cut [77] (fun q wx => q = .bool false ∧ Ext w10 wx)
        case first =>
          go_region_with (first
            | (go_at_call 10; refine (toMetric_any (w0 := w5) a0).mono ?_; rintro e wq ⟨qd, qm, qvs, rfl, ql, qown, hq⟩; have pq := qown.met' ql a0; have eq : Ext w10 wq := Ext.trans inferInstance hq; have y0' := eq.cell y0; have EXq := Ext.trans EX eq)
            | (go_at_call 13; refine (eqMetric_any (w0 := wq) (x_0.ext (w' := wq)) pq).mono ?_; rw [heq.out]; rintro e wq2 ⟨rfl, hq2⟩))
          all_goals
            go_wp2_with fail
            go_meet
            exact ⟨rfl, Ext.trans eq hq2⟩
        case rest =>
          obtain ⟨rfl, hbc⟩ := hcut
          have hb : Ext w10 wc := hbc
          clear hbc
          obtain ⟨w11, rfl⟩ : ∃ x : World, x = wc := ⟨_, rfl⟩
          have hbw11 : Ext w10 w11 := Ext.trans inferInstance hb
          replace y0 := hbw11.cell y0
          replace EB := Ext.trans EB hbw11
          replace EX := Ext.trans EX hbw11
          replace OW := OW.ext (w' := w11)
          go_wp2_with fail
          refine (toIntS_any (w0 := w5) a1).mono ?_
          rintro e w12 ⟨q1_d, q1_m, rfl, q1_own, hb⟩
          have q1 := q1_own.reads' a1
          clear q1_own
          have hbw12 : Ext w11 w12 := Ext.trans inferInstance hb
          replace y0 := hbw12.cell y0
          replace EB := Ext.trans EB hbw12
          replace EX := Ext.trans EX hbw12
          replace OW := OW.ext (w' := w12)
          go_wp2_with fail
          refine (eqIntS_any (w0 := w12) (x_1.ext (w' := w12)) q1).mono ?_
          rw [heq1.out]
          rintro e w13 ⟨rfl, hdr⟩
          have hb := hdr.ext
          clear hdr
          have hbw13 : Ext w12 w13 := Ext.trans inferInstance hb
          replace y0 := hbw13.cell y0
          replace q1 := q1.ext (w' := w13)
          replace EB := Ext.trans EB hbw13
          replace EX := Ext.trans EX hbw13
          replace OW := OW.ext (w' := w13)
          clear q1
          go_wp2_with fail
          refine (toIntS_any (w0 := w5) a2).mono ?_
          rintro e w14 ⟨q2_d, q2_m, rfl, q2_own, hb⟩
          have q2 := q2_own.reads' a2
          clear q2_own
          have hbw14 : Ext w13 w14 := Ext.trans inferInstance hb
          replace y0 := hbw14.cell y0
          replace EB := Ext.trans EB hbw14
          replace EX := Ext.trans EX hbw14
          replace OW := OW.ext (w' := w14)
          go_wp2_with fail
          refine (eqIntS_any (w0 := w14) (x_2.ext (w' := w14)) q2).mono ?_
          rw [heq2.out]
          rintro e w15 ⟨rfl, hdr⟩
          have hb := hdr.ext
          clear hdr
          have hbw15 : Ext w14 w15 := Ext.trans inferInstance hb
          replace y0 := hbw15.cell y0
          replace q2 := q2.ext (w' := w15)
          replace EB := Ext.trans EB hbw15
          replace EX := Ext.trans EX hbw15
          replace OW := OW.ext (w' := w15)
          clear q2
          -- the marks
          replace hBo : w5.heap.size ≤ w15.heap.size := EB.size
          have hsz0 := hsm0.out
          have hsz1 := (show X1.length ≤ 1048576 by omega)
          have hsz2 := (show X2.length ≤ 1048576 by omega)
          go_wp2_with fail
          replace OW := Own.rot OW
          simp only [List.append_assoc] at OW
          replace OW := Own.rot OW
          simp only [List.append_assoc] at OW
          replace OW := Own.rot OW
          simp only [List.append_assoc] at OW
          refine (markMetric_any (k := 1) OW x_0_l hBo (by omega) (by omega) (by omega) (by omega)).mono ?_
          rintro e w16 ⟨rfl, OW', hbm⟩
          replace OW := OW'
          clear OW'
          replace EB := Ext.mark EB hbm
          clear hbm
          replace hBo : w5.heap.size ≤ w16.heap.size := EB.size
          obtain ⟨k1, hk1, hk1a, hk1b⟩ : ∃ x : Int, 1 + sumLen M0 = x ∧ 0 ≤ x ∧ x ≤ 1048577 := ⟨_, rfl, by omega, by omega⟩
          rw [hk1]
          clear hk1
          go_wp2_with fail
          replace OW := Own.rot OW
          simp only [List.append_assoc] at OW
          replace OW := Own.rot OW
          simp only [List.append_assoc] at OW
          replace OW := Own.rot OW
          simp only [List.append_assoc] at OW
          replace OW := Own.rot OW
          simp only [List.append_assoc] at OW
          refine (markIntS_any (k := k1) (Own.one OW) hBo (by omega) (by omega) (by omega)).mono ?_
          rintro e w17 ⟨rfl, OW', hbm⟩
          replace OW' := Own.eno OW'
          replace OW := OW'
          clear OW'
          replace EB := Ext.mark EB hbm
          clear hbm
          replace hBo : w5.heap.size ≤ w17.heap.size := EB.size
          obtain ⟨k2, hk2, hk2a, hk2b⟩ : ∃ x : Int, k1 + X1.length = x ∧ 0 ≤ x ∧ x ≤ 2097153 := ⟨_, rfl, by omega, by omega⟩
          rw [hk2]
          clear hk2
          go_wp2_with fail
          replace OW := Own.rot OW
          simp only [List.append_assoc] at OW
          replace OW := Own.rot OW
          simp only [List.append_assoc] at OW
          replace OW := Own.rot OW
          simp only [List.append_assoc] at OW
          replace OW := Own.rot OW
          simp only [List.append_assoc] at OW
          refine (markIntS_any (k := k2) (Own.one OW) hBo (by omega) (by omega) (by omega)).mono ?_
          rintro e w18 ⟨rfl, OW', hbm⟩
          replace OW' := Own.eno OW'
          replace OW := OW'
          clear OW'
          replace EB := Ext.mark EB hbm
          clear hbm
          replace hBo : w5.heap.size ≤ w18.heap.size := EB.size
          obtain ⟨k3, hk3, hk3a, hk3b⟩ : ∃ x : Int, k2 + X2.length = x ∧ 0 ≤ x ∧ x ≤ 3145729 := ⟨_, rfl, by omega, by omega⟩
          rw [hk3]
          clear hk3
          replace OW := Own.rot OW
          simp only [List.append_assoc] at OW
          replace OW := Own.rot OW
          simp only [List.append_assoc] at OW
          replace OW := Own.rot OW
          simp only [List.append_assoc] at OW
          replace OW := Own.rot OW
          simp only [List.append_assoc] at OW
          have rd0_18 := OW.readsAll2 g0_l z0
          go_wp2_with fail
          refine (eqIntSS_any (w0 := w18) rd0_18 (z0.ext (w' := w18))).mono ?_
          rw [hq0.out]
          rintro e w19 ⟨rfl, hdr⟩
          have hb := hdr.ext
          clear hdr
          have hbw19 : Ext w18 w19 := Ext.trans inferInstance hb
          replace EB := Ext.trans EB hbw19
          replace OW := OW.ext (w' := w19)
          replace hBo : w5.heap.size ≤ w19.heap.size := EB.size
          -- the marks in the results
          have hbq0 := hbd0.out
          go_wp2_with fail
          refine (markIntSS_any (k := 1) OW g0_l hBo (by omega) (by omega) (by omega) (by omega)).mono ?_
          rintro e w20 ⟨rfl, OW', hbm⟩
          replace OW := OW'
          clear OW'
          replace EB := Ext.mark EB hbm
          clear hbm
          replace hBo : w5.heap.size ≤ w20.heap.size := EB.size
          obtain ⟨m1, hm1, hm1a, hm1b⟩ : ∃ x : Int, 1 + sumLen r0 = x ∧ 0 ≤ x ∧ x ≤ 2000001 := ⟨_, rfl, by omega, by omega⟩
          rw [hm1]
          have hmm : (m1 != m1) = false := by simp
          go_wp2_with fail
          have hd0_20 := OW.readsMark g0_l (by omega) (by omega) (by have := hbd0.out; omega) (by have := hbd0.out; omega)
          refine (heldIntSS_any (w0 := w20) (k := 1) hd0_20 (by rw [markR_sumLen]; omega) (by rw [markR_length]; omega) (by omega) (by omega)).mono ?_
          rw [heldR_mark, hm1]
          rintro e w21 ⟨rfl, hdr⟩
          have hb := hdr.ext
          clear hdr
          have hbw21 : Ext w20 w21 := Ext.trans inferInstance hb
          replace EB := Ext.trans EB hbw21
          replace OW := OW.ext (w' := w21)
          -- the second call
          have x0_21 := EB.cell x0
          go_wp2_with fail
          refine (toMetric_any (w0 := w5) a0).mono ?_
          rintro e w22 ⟨t_0_d, t_0_m, t_0_vs, rfl, t_0_l, t_0_own, hb⟩
          have t_0 := t_0_own.met' t_0_l a0
          clear t_0_own
          have hbw22 : Ext w21 w22 := Ext.trans inferInstance hb
          replace EB := Ext.trans EB hbw22
          replace OW := OW.ext (w' := w22)
          go_wp2_with fail
          refine (toIntS_any (w0 := w5) a1).mono ?_
          rintro e w23 ⟨t_1_d, t_1_m, rfl, t_1_own, hb⟩
          have t_1 := t_1_own.reads' a1
          clear t_1_own
          have hbw23 : Ext w22 w23 := Ext.trans inferInstance hb
          replace t_0 := t_0.ext (w' := w23)
          replace EB := Ext.trans EB hbw23
          replace OW := OW.ext (w' := w23)
          go_wp2_with fail
          refine (toIntS_any (w0 := w5) a2).mono ?_
          rintro e w24 ⟨t_2_d, t_2_m, rfl, t_2_own, hb⟩
          have t_2 := t_2_own.reads' a2
          clear t_2_own
          have hbw24 : Ext w23 w24 := Ext.trans inferInstance hb
          replace t_0 := t_0.ext (w' := w24)
          replace t_1 := t_1.ext (w' := w24)
          replace EB := Ext.trans EB hbw24
          replace OW := OW.ext (w' := w24)
          go_wp2_with fail
          refine (implRun_any (w0 := w24) t_0 t_1 t_2).mono ?_
          rw [hr0.out, hr1.out, hr2.out]
          rintro e w25 ⟨h0_d, h0_m, h0_vs, rfl, h0_l, h_own, hb⟩
          have hbw25 : Ext w24 w25 := Ext.trans inferInstance hb
          replace t_0 := t_0.ext (w' := w25)
          replace t_1 := t_1.ext (w' := w25)
          replace t_2 := t_2.ext (w' := w25)
          replace EB := Ext.trans EB hbw25
          replace OW := OW.ext (w' := w25)
          have hh0 := h_own.readsAll' h0_l z0
          have EH : Ext w25 w25 := Ext.refl w25
          go_wp2_with fail
          refine (eqIntSS_any (w0 := w25) (hh0.ext (w' := w25)) (z0.ext (w' := w25))).mono ?_
          rw [hq0.out]
          rintro e w26 ⟨rfl, hdr⟩
          have hb := hdr.ext
          clear hdr
          have hbw26 : Ext w25 w26 := Ext.trans inferInstance hb
          replace EB := Ext.trans EB hbw26
          replace EH := Ext.trans EH hbw26
          replace OW := OW.ext (w' := w26)
          go_wp2_with fail
          have hd0_26 := OW.readsMark g0_l (by omega) (by omega) (by have := hbd0.out; omega) (by have := hbd0.out; omega)
          refine (heldIntSS_any (w0 := w26) (k := 1) hd0_26 (by rw [markR_sumLen]; omega) (by rw [markR_length]; omega) (by omega) (by omega)).mono ?_
          rw [heldR_mark, hm1]
          rintro e w27 ⟨rfl, hdr⟩
          have hb := hdr.ext
          clear hdr
          have hbw27 : Ext w26 w27 := Ext.trans inferInstance hb
          replace EB := Ext.trans EB hbw27
          replace EH := Ext.trans EH hbw27
          replace OW := OW.ext (w' := w27)
          go_wp2_with fail
          go_ret
          exact ⟨rfl, Ext.trans e1 EB⟩

end Go.Proofs.Ytpiplhgiphndeaa
