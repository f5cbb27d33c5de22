/- 'laws.FnExactChainCost' walked: it returns true for every input. Written by lawgen2.py. -/
import Derived.Test.YtkibmjenjgijmaaChS
import Derived.Test.YtkibmjenjgijmaaLawM
import Derived.Test.YtkibmjenjgijmaaGrA
import Derived.Deep.RegionWith
import Derived.Deep.Cut
import Derived.Deep.DeepCutAuto
namespace Go.Proofs.Ytkibmjenjgijmaa
open Go.RowKit

set_option maxHeartbeats 3200000 in
set_option maxRecDepth 100000 in
theorem lawFnExactChainCost_any {v0 : Value} {M0 : List (List Int)} {v1 : Value} {X1 : List Int} {v2 : Value} {X2 : List Int} {v3 : Value} {X3 : List Int} {w : World} (a0 : IsMet w v0 M0) (a1 : IsInts w v1 X1) (a2 : IsInts w v2 X2) (a3 : IsInts w v3 X3) :
    Calls Try.prog 4 #[v0, v1, v2, v3] w fun e w' => e = .returned (.bool true) ∧ Ext w w' := by
  have b0 := a0
  obtain ⟨v0a, rfl, hM0⟩ := b0
  obtain ⟨f0a, c0a, rfl, l0a⟩ := hM0.form
  clear hM0
  obtain ⟨f1, c1, rfl, l1⟩ := a1.form
  obtain ⟨f2, c2, rfl, l2⟩ := a2.form
  obtain ⟨f3, c3, rfl, l3⟩ := a3.form
  by_cases g1 : (1048576 : Int) < X1.length
  · have g1' : decide ((1048576 : Int) < X1.length) = true := by simpa using g1
    go_enter Try.func4, Try.ntmps4
    go_wp2_with fail
    go_ret
    exact ⟨rfl, inferInstance⟩
  · have g1' : decide ((1048576 : Int) < X1.length) = false := by simpa using g1
    by_cases g2 : (1048576 : Int) < X2.length
    · have g2' : decide ((1048576 : Int) < X2.length) = true := by simpa using g2
      go_enter Try.func4, Try.ntmps4
      go_wp2_with fail
      go_ret
      exact ⟨rfl, inferInstance⟩
    · have g2' : decide ((1048576 : Int) < X2.length) = false := by simpa using g2
      by_cases g3 : (1048576 : Int) < X3.length
      · have g3' : decide ((1048576 : Int) < X3.length) = true := by simpa using g3
        go_enter Try.func4, Try.ntmps4
        go_wp2_with fail
        go_ret
        exact ⟨rfl, inferInstance⟩
      · have g3' : decide ((1048576 : Int) < X3.length) = false := by simpa using g3
        by_cases g0 : (1048576 : Int) - ((M0.length + sumLen M0) : Nat) < 0
        · have gl0 := hid (show leftOf 1048576 (M0.length + sumLen M0) = -1 by rw [leftOf, if_pos g0])
          go_enter Try.func4, Try.ntmps4
          go_wp2_with fail
          refine (szMetric_any (w0 := w) a0 (by omega) (by omega)).mono ?_
          rw [gl0.out]; rintro e wz ⟨rfl, hb⟩
          go_wp2_with fail
          go_ret
          exact ⟨rfl, Ext.trans inferInstance hb⟩
        · have gl0 := hid (show leftOf 1048576 (M0.length + sumLen M0) = 1048576 - ((M0.length + sumLen M0) : Nat) by rw [leftOf, if_neg g0])
          have gn0 : 0 ≤ (1048576 : Int) - ((M0.length + sumLen M0) : Nat) := by omega
          have gm0 : (1048576 : Int) - ((M0.length + sumLen M0) : Nat) ≤ 1048576 := by omega
          have hsm0 : (M0.length + sumLen M0) ≤ 1048576 := by omega
          generalize hz0 : (1048576 : Int) - ((M0.length + sumLen M0) : Nat) = z0 at *
          replace hz0 := hid hz0
          clear g0
          replace hsm0 := hid hsm0
          -- all sizes are right
          have heq := hid (show eqR M0 M0 = true from eqR_iff.2 rfl)
          have heq1 := hid (show eqL X1 X1 = true from eqL_iff.2 rfl)
          have heq2 := hid (show eqL X2 X2 = true from eqL_iff.2 rfl)
          have heq3 := hid (show eqL X3 X3 = true from eqL_iff.2 rfl)
          go_enter Try.func4, Try.ntmps4
          go_wp2_with fail
          refine (szMetric_any (w0 := w) a0 (by omega) (by omega)).mono ?_
          rw [gl0.out]; rintro e w1 ⟨rfl, hb⟩
          have x0 : w1.cell? ⟨w.heap.size, 0, none⟩ = some (.slice f0a M0.length c0a) := hb.cell (by go_simp)
          have e1 : Ext w w1 := Ext.trans inferInstance hb
          clear hb
          replace a0 := a0.ext (w' := w1)
          replace a1 := a1.ext (w' := w1)
          replace a2 := a2.ext (w' := w1)
          replace a3 := a3.ext (w' := w1)
          go_wp2_with fail
          refine (toMetric_any (w0 := w1) a0).mono ?_
          rintro e w2 ⟨s0_d, s0_m, s0_vs, rfl, s0_l, s0_own, hb⟩
          have s0 := s0_own.met' s0_l a0
          clear s0_own
          have hbw2 : Ext w1 w2 := Ext.trans inferInstance hb
          replace x0 := hbw2.cell x0
          replace a0 := a0.ext (w' := w2)
          replace a1 := a1.ext (w' := w2)
          replace a2 := a2.ext (w' := w2)
          replace a3 := a3.ext (w' := w2)
          replace e1 := Ext.trans e1 hbw2
          go_wp2_with fail
          refine (toIntS_any (w0 := w2) a1).mono ?_
          rintro e w3 ⟨s1_d, s1_m, rfl, s1_own, hb⟩
          have s1 := s1_own.reads' a1
          clear s1_own
          have hbw3 : Ext w2 w3 := Ext.trans inferInstance hb
          replace x0 := hbw3.cell x0
          replace a0 := a0.ext (w' := w3)
          replace a1 := a1.ext (w' := w3)
          replace a2 := a2.ext (w' := w3)
          replace a3 := a3.ext (w' := w3)
          replace s0 := s0.ext (w' := w3)
          replace e1 := Ext.trans e1 hbw3
          go_wp2_with fail
          refine (toIntS_any (w0 := w3) a2).mono ?_
          rintro e w4 ⟨s2_d, s2_m, rfl, s2_own, hb⟩
          have s2 := s2_own.reads' a2
          clear s2_own
          have hbw4 : Ext w3 w4 := Ext.trans inferInstance hb
          replace x0 := hbw4.cell x0
          replace a0 := a0.ext (w' := w4)
          replace a1 := a1.ext (w' := w4)
          replace a2 := a2.ext (w' := w4)
          replace a3 := a3.ext (w' := w4)
          replace s0 := s0.ext (w' := w4)
          replace s1 := s1.ext (w' := w4)
          replace e1 := Ext.trans e1 hbw4
          go_wp2_with fail
          refine (toIntS_any (w0 := w4) a3).mono ?_
          rintro e w5 ⟨s3_d, s3_m, rfl, s3_own, hb⟩
          have s3 := s3_own.reads' a3
          clear s3_own
          have hbw5 : Ext w4 w5 := Ext.trans inferInstance hb
          replace x0 := hbw5.cell x0
          replace a0 := a0.ext (w' := w5)
          replace a1 := a1.ext (w' := w5)
          replace a2 := a2.ext (w' := w5)
          replace a3 := a3.ext (w' := w5)
          replace s0 := s0.ext (w' := w5)
          replace s1 := s1.ext (w' := w5)
          replace s2 := s2.ext (w' := w5)
          replace e1 := Ext.trans e1 hbw5
          go_wp2_with fail
          refine (specCC_any (w0 := w5) s0 s1 s2 s3).mono ?_
          rintro e w6 ⟨rfl, hb⟩
          have hbw6 : Ext w5 w6 := Ext.trans inferInstance hb
          replace x0 := hbw6.cell x0
          replace a0 := a0.ext (w' := w6)
          replace a1 := a1.ext (w' := w6)
          replace a2 := a2.ext (w' := w6)
          replace a3 := a3.ext (w' := w6)
          replace s0 := s0.ext (w' := w6)
          replace s1 := s1.ext (w' := w6)
          replace s2 := s2.ext (w' := w6)
          replace s3 := s3.ext (w' := w6)
          replace e1 := Ext.trans e1 hbw6
          clear s0 s1 s2 s3
          have EB : Ext w6 w6 := Ext.refl w6
          have hBo : w6.heap.size ≤ w6.heap.size := Nat.le_refl _
          have x0_6 := EB.cell x0
          go_wp2_with fail
          refine (toMetric_any (w0 := w6) a0).mono ?_
          rintro e w7 ⟨x_0_d, x_0_m, x_0_vs, rfl, x_0_l, x_0_own, hb⟩
          have x_0 := x_0_own.met' x_0_l a0
          have OW := x_0_own
          clear x_0_own
          try simp only [List.append_assoc] at OW
          have hbw7 : Ext w6 w7 := Ext.trans inferInstance hb
          replace EB := Ext.trans EB hbw7
          replace hBo : w6.heap.size ≤ w7.heap.size := EB.size
          go_wp2_with fail
          refine (toIntS_any (w0 := w6) a1).mono ?_
          rintro e w8 ⟨x_1_d, x_1_m, rfl, x_1_own, hb⟩
          have x_1 := x_1_own.reads' a1
          replace OW := Own.add x_1_own OW hb hBo
          clear x_1_own
          try simp only [List.append_assoc] at OW
          have hbw8 : Ext w7 w8 := Ext.trans inferInstance hb
          have y0 : w8.cell? ⟨w7.heap.size, 0, none⟩ = some (.slice x_0_d M0.length x_0_m) := hb.cell (by go_simp)
          replace x_0 := x_0.ext (w' := w8)
          replace EB := Ext.trans EB hbw8
          replace hBo : w6.heap.size ≤ w8.heap.size := EB.size
          go_wp2_with fail
          refine (toIntS_any (w0 := w6) a2).mono ?_
          rintro e w9 ⟨x_2_d, x_2_m, rfl, x_2_own, hb⟩
          have x_2 := x_2_own.reads' a2
          replace OW := Own.add x_2_own OW hb hBo
          clear x_2_own
          try simp only [List.append_assoc] at OW
          have hbw9 : Ext w8 w9 := Ext.trans inferInstance hb
          replace y0 := hbw9.cell y0
          replace x_0 := x_0.ext (w' := w9)
          replace x_1 := x_1.ext (w' := w9)
          replace EB := Ext.trans EB hbw9
          replace hBo : w6.heap.size ≤ w9.heap.size := EB.size
          go_wp2_with fail
          refine (toIntS_any (w0 := w6) a3).mono ?_
          rintro e w10 ⟨x_3_d, x_3_m, rfl, x_3_own, hb⟩
          have x_3 := x_3_own.reads' a3
          replace OW := Own.add x_3_own OW hb hBo
          clear x_3_own
          try simp only [List.append_assoc] at OW
          have hbw10 : Ext w9 w10 := Ext.trans inferInstance hb
          replace y0 := hbw10.cell y0
          replace x_0 := x_0.ext (w' := w10)
          replace x_1 := x_1.ext (w' := w10)
          replace x_2 := x_2.ext (w' := w10)
          replace EB := Ext.trans EB hbw10
          replace hBo : w6.heap.size ≤ w10.heap.size := EB.size
          go_wp2_with fail
          refine (implCC_any (w0 := w10) x_0 x_1 x_2 x_3).mono ?_
          rintro e w11 ⟨rfl, hb⟩
          have hbw11 : Ext w10 w11 := Ext.trans inferInstance hb
          replace y0 := hbw11.cell y0
          replace x_0 := x_0.ext (w' := w11)
          replace x_1 := x_1.ext (w' := w11)
          replace x_2 := x_2.ext (w' := w11)
          replace x_3 := x_3.ext (w' := w11)
          replace EB := Ext.trans EB hbw11
          replace OW := OW.ext (w' := w11)
          replace hBo : w6.heap.size ≤ w11.heap.size := EB.size
          generalize hr0 : (ccR M0 X1 X2 X3) = r0 at *
          replace hr0 := hid hr0
          have hn0 : (r0 != r0) = false := by simp
          generalize hr1 : (ccOk M0 X1 X2 X3) = r1 at *
          replace hr1 := hid hr1
          have hn1 : (r1 != r1) = false := by simp
          have EX : Ext w11 w11 := Ext.refl w11
          replace OW := Own.nilr OW
          simp only [List.append_assoc] at OW
          have x0_11 := EB.cell x0
          go_upto_region 19 with fail
          go_cut [72] (fun q wx => q = .bool false ∧ Ext w11 wx)
          case first =>
            go_region_with (first
              | (go_at_call 20; refine (toMetric_any (w0 := w6) a0).mono ?_; rintro e wq ⟨qd, qm, qvs, rfl, ql, qown, hq⟩; have pq := qown.met' ql a0; have eq : Ext w11 wq := Ext.trans inferInstance hq; have y0' := eq.cell y0; have EXq := Ext.trans EX eq)
              | (go_at_call 23; refine (eqMetric_any (w0 := wq) (x_0.ext (w' := wq)) pq).mono ?_; rw [heq.out]; rintro e wq2 ⟨rfl, hq2⟩))
            all_goals
              go_wp2_with fail
              go_meet
              exact ⟨rfl, Ext.trans eq hq2⟩
          case rest =>
            obtain ⟨rfl, hbc⟩ := hcut
            have hb : Ext w11 wc := hbc
            clear hbc
            obtain ⟨w12, rfl⟩ : ∃ x : World, x = wc := ⟨_, rfl⟩
            have hbw12 : Ext w11 w12 := Ext.trans inferInstance hb
            replace y0 := hbw12.cell y0
            replace EB := Ext.trans EB hbw12
            replace EX := Ext.trans EX hbw12
            replace OW := OW.ext (w' := w12)
            go_wp2_with fail
            refine (toIntS_any (w0 := w6) a1).mono ?_
            rintro e w13 ⟨q1_d, q1_m, rfl, q1_own, hb⟩
            have q1 := q1_own.reads' a1
            clear q1_own
            have hbw13 : Ext w12 w13 := Ext.trans inferInstance hb
            replace y0 := hbw13.cell y0
            replace EB := Ext.trans EB hbw13
            replace EX := Ext.trans EX hbw13
            replace OW := OW.ext (w' := w13)
            go_wp2_with fail
            refine (eqIntS_any (w0 := w13) (x_1.ext (w' := w13)) q1).mono ?_
            rw [heq1.out]
            rintro e w14 ⟨rfl, hdr⟩
            have hb := hdr.ext
            clear hdr
            have hbw14 : Ext w13 w14 := Ext.trans inferInstance hb
            replace y0 := hbw14.cell y0
            replace q1 := q1.ext (w' := w14)
            replace EB := Ext.trans EB hbw14
            replace EX := Ext.trans EX hbw14
            replace OW := OW.ext (w' := w14)
            clear q1
            go_wp2_with fail
            refine (toIntS_any (w0 := w6) a2).mono ?_
            rintro e w15 ⟨q2_d, q2_m, rfl, q2_own, hb⟩
            have q2 := q2_own.reads' a2
            clear q2_own
            have hbw15 : Ext w14 w15 := Ext.trans inferInstance hb
            replace y0 := hbw15.cell y0
            replace EB := Ext.trans EB hbw15
            replace EX := Ext.trans EX hbw15
            replace OW := OW.ext (w' := w15)
            go_wp2_with fail
            refine (eqIntS_any (w0 := w15) (x_2.ext (w' := w15)) q2).mono ?_
            rw [heq2.out]
            rintro e w16 ⟨rfl, hdr⟩
            have hb := hdr.ext
            clear hdr
            have hbw16 : Ext w15 w16 := Ext.trans inferInstance hb
            replace y0 := hbw16.cell y0
            replace q2 := q2.ext (w' := w16)
            replace EB := Ext.trans EB hbw16
            replace EX := Ext.trans EX hbw16
            replace OW := OW.ext (w' := w16)
            clear q2
            go_wp2_with fail
            refine (toIntS_any (w0 := w6) a3).mono ?_
            rintro e w17 ⟨q3_d, q3_m, rfl, q3_own, hb⟩
            have q3 := q3_own.reads' a3
            clear q3_own
            have hbw17 : Ext w16 w17 := Ext.trans inferInstance hb
            replace y0 := hbw17.cell y0
            replace EB := Ext.trans EB hbw17
            replace EX := Ext.trans EX hbw17
            replace OW := OW.ext (w' := w17)
            go_wp2_with fail
            refine (eqIntS_any (w0 := w17) (x_3.ext (w' := w17)) q3).mono ?_
            rw [heq3.out]
            rintro e w18 ⟨rfl, hdr⟩
            have hb := hdr.ext
            clear hdr
            have hbw18 : Ext w17 w18 := Ext.trans inferInstance hb
            replace y0 := hbw18.cell y0
            replace q3 := q3.ext (w' := w18)
            replace EB := Ext.trans EB hbw18
            replace EX := Ext.trans EX hbw18
            replace OW := OW.ext (w' := w18)
            clear q3
            go_wp2_with fail
            go_ret
            exact ⟨rfl, Ext.trans e1 EB⟩

end Go.Proofs.Ytkibmjenjgijmaa
