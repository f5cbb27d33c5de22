/- 'laws.FnExactPairAfter' walked: it returns true for every input. Written by lawgen.py. -/
import Derived.Test.YtobfehekjapnhaaAfter
import Derived.Test.YtobfehekjapnhaaReads
import Derived.Deep.RegionWith
import Derived.Deep.Cut
import Derived.Deep.DeepCutAuto
namespace Go.Proofs.Ytobfehekjapnhaa
open Go.RowKit

set_option maxHeartbeats 1600000 in
set_option maxRecDepth 100000 in
theorem lawFnExactPairAfter_any {v0 : Value} {M0 S0 : List (List Int)} {v1 : Value} {X1 : List (List Int)} {n2 : Int} {v3 : Value} {X3 : List Int} {w : World} (a0 : IsProb w v0 M0 S0) (a1 : IsRows w v1 X1) (a2 : I64 n2) (a3 : IsInts w v3 X3) :
    Calls Try.prog 5 #[v0, v1, .int .i64 n2, v3] w fun e w' => e = .returned (.bool true) ∧ Ext w w' := by
  have b0 := a0
  obtain ⟨v0a, v0b, rfl, hM0, hS0⟩ := b0
  obtain ⟨f0a, c0a, rfl, l0a⟩ := hM0.form
  obtain ⟨f0b, c0b, rfl, l0b⟩ := hS0.form
  clear hM0 hS0
  obtain ⟨f1, c1, rfl, l1⟩ := a1.form
  obtain ⟨f3, c3, rfl, l3⟩ := a3.form
  by_cases g3 : (1048576 : Int) < X3.length
  · have g3' : decide ((1048576 : Int) < X3.length) = true := by simpa using g3
    go_enter Try.func5, Try.ntmps5
    go_wp2_with fail
    go_ret
    exact ⟨rfl, inferInstance⟩
  · have g3' : decide ((1048576 : Int) < X3.length) = false := by simpa using g3
    by_cases g0 : (1048576 : Int) - ((M0.length + sumLen M0 + (S0.length + sumLen S0)) : Nat) < 0
    · have gl0 := hid (show leftOf 1048576 (M0.length + sumLen M0 + (S0.length + sumLen S0)) = -1 by rw [leftOf, if_pos g0])
      go_enter Try.func5, Try.ntmps5
      go_wp2_with fail
      refine (szProblem_any (w0 := w) a0 (by omega) (by omega)).mono ?_
      rw [gl0.out]; rintro e wz ⟨rfl, hb⟩
      go_wp2_with fail
      go_ret
      exact ⟨rfl, Ext.trans inferInstance hb⟩
    · have gl0 := hid (show leftOf 1048576 (M0.length + sumLen M0 + (S0.length + sumLen S0)) = 1048576 - ((M0.length + sumLen M0 + (S0.length + sumLen S0)) : Nat) by rw [leftOf, if_neg g0])
      have gn0 : 0 ≤ (1048576 : Int) - ((M0.length + sumLen M0 + (S0.length + sumLen S0)) : Nat) := by omega
      have gm0 : (1048576 : Int) - ((M0.length + sumLen M0 + (S0.length + sumLen S0)) : Nat) ≤ 1048576 := by omega
      have hsm0 : (M0.length + sumLen M0 + (S0.length + sumLen S0)) ≤ 1048576 := by omega
      generalize hz0 : (1048576 : Int) - ((M0.length + sumLen M0 + (S0.length + sumLen S0)) : Nat) = z0 at *
      replace hz0 := hid hz0
      clear g0
      replace hsm0 := hid hsm0
      by_cases g1 : (z0 : Int) - ((X1.length + sumLen X1) : Nat) < 0
      · have gl1 := hid (show leftOf z0 (X1.length + sumLen X1) = -1 by rw [leftOf, if_pos g1])
        go_enter Try.func5, Try.ntmps5
        go_wp2_with fail
        refine (szProblem_any (w0 := w) a0 (by omega) (by omega)).mono ?_
        rw [gl0.out]; rintro e w1 ⟨rfl, hb⟩
        have x0 : w1.cell? ⟨w.heap.size, 0, none⟩ = some (.slice f0a M0.length c0a) := hb.cell (by go_simp)
        have x1 : w1.cell? ⟨w.heap.size, 1, none⟩ = some (.slice f0b S0.length c0b) := hb.cell (by go_simp)
        have e1 : Ext w w1 := Ext.trans inferInstance hb
        clear hb
        go_wp2_with fail
        refine (szIntSS_any (w0 := w) a1 (by omega) (by omega)).mono ?_
        rw [gl1.out]; rintro e wz ⟨rfl, hwz⟩; rw [hwz]; clear hwz
        go_wp2_with fail
        go_ret
        exact ⟨rfl, e1⟩
      · have gl1 := hid (show leftOf z0 (X1.length + sumLen X1) = z0 - ((X1.length + sumLen X1) : Nat) by rw [leftOf, if_neg g1])
        have gn1 : 0 ≤ (z0 : Int) - ((X1.length + sumLen X1) : Nat) := by omega
        have gm1 : (z0 : Int) - ((X1.length + sumLen X1) : Nat) ≤ 1048576 := by omega
        have hsm1 : (X1.length + sumLen X1) ≤ 1048576 := by omega
        generalize hz1 : (z0 : Int) - ((X1.length + sumLen X1) : Nat) = z1 at *
        replace hz1 := hid hz1
        clear g1
        replace hsm1 := hid hsm1
        -- all sizes are right
        have heq := hid (show eqP M0 S0 M0 S0 = true from eqP_iff.2 ⟨rfl, rfl⟩)
        have heq1 := hid (show eqR X1 X1 = true from eqR_iff.2 rfl)
        have heq3 := hid (show eqL X3 X3 = true from eqL_iff.2 rfl)
        go_enter Try.func5, Try.ntmps5
        go_wp2_with fail
        refine (szProblem_any (w0 := w) a0 (by omega) (by omega)).mono ?_
        rw [gl0.out]; rintro e w1 ⟨rfl, hb⟩
        have x0 : w1.cell? ⟨w.heap.size, 0, none⟩ = some (.slice f0a M0.length c0a) := hb.cell (by go_simp)
        have x1 : w1.cell? ⟨w.heap.size, 1, none⟩ = some (.slice f0b S0.length c0b) := hb.cell (by go_simp)
        have e1 : Ext w w1 := Ext.trans inferInstance hb
        clear hb
        go_wp2_with fail
        refine (szIntSS_any (w0 := w) a1 (by omega) (by omega)).mono ?_
        rw [gl1.out]; rintro e wz ⟨rfl, hwz⟩; rw [hwz]; clear hwz
        replace a0 := a0.ext (w' := w1)
        replace a1 := a1.ext (w' := w1)
        replace a3 := a3.ext (w' := w1)
        go_wp2_with fail
        refine (toProblem_any (w0 := w1) a0).mono ?_
        rintro e w2 ⟨s0_d, s0_m, s0_vs, s0_d2, s0_m2, s0_vs2, rfl, s0_l, s0_l2, s0_own, hb⟩
        have s0 := s0_own.prob' s0_l s0_l2 a0
        have hbw2 : Ext w1 w2 := Ext.trans inferInstance hb
        clear hb
        replace x0 := hbw2.cell x0
        replace x1 := hbw2.cell x1
        replace a0 := a0.ext (w' := w2)
        replace a1 := a1.ext (w' := w2)
        replace a3 := a3.ext (w' := w2)
        replace e1 := Ext.trans e1 hbw2
        clear s0_own
        go_wp2_with fail
        refine (toIntSS_any (w0 := w2) a1).mono ?_
        rintro e w3 ⟨s1_d, s1_m, s1_vs, rfl, s1_l, s1_own, hb⟩
        have s1 := s1_own.readsAll' s1_l a1
        have hbw3 : Ext w2 w3 := Ext.trans inferInstance hb
        clear hb
        replace x0 := hbw3.cell x0
        replace x1 := hbw3.cell x1
        replace a0 := a0.ext (w' := w3)
        replace a1 := a1.ext (w' := w3)
        replace a3 := a3.ext (w' := w3)
        replace s0 := s0.ext (w' := w3)
        replace e1 := Ext.trans e1 hbw3
        clear s1_own
        go_wp2_with fail
        refine (toIntS_any (w0 := w3) a3).mono ?_
        rintro e w4 ⟨s3_d, s3_m, rfl, s3_own, hb⟩
        have s3 := s3_own.reads' a3
        have hbw4 : Ext w3 w4 := Ext.trans inferInstance hb
        clear hb
        replace x0 := hbw4.cell x0
        replace x1 := hbw4.cell x1
        replace a0 := a0.ext (w' := w4)
        replace a1 := a1.ext (w' := w4)
        replace a3 := a3.ext (w' := w4)
        replace s0 := s0.ext (w' := w4)
        replace s1 := s1.ext (w' := w4)
        replace e1 := Ext.trans e1 hbw4
        clear s3_own
        go_wp2_with fail
        refine (specPA_any (w0 := w4) s0 s1 a2 s3).mono ?_
        rintro e w5 ⟨rfl, hb⟩
        have hbw5 : Ext w4 w5 := Ext.trans inferInstance hb
        clear hb
        replace x0 := hbw5.cell x0
        replace x1 := hbw5.cell x1
        replace a0 := a0.ext (w' := w5)
        replace a1 := a1.ext (w' := w5)
        replace a3 := a3.ext (w' := w5)
        replace s0 := s0.ext (w' := w5)
        replace s1 := s1.ext (w' := w5)
        replace s3 := s3.ext (w' := w5)
        replace e1 := Ext.trans e1 hbw5
        go_wp2_with fail
        refine (toProblem_any (w0 := w5) a0).mono ?_
        rintro e w6 ⟨x_0_d, x_0_m, x_0_vs, x_0_d2, x_0_m2, x_0_vs2, rfl, x_0_l, x_0_l2, x_0_own, hb⟩
        have x_0 := x_0_own.prob' x_0_l x_0_l2 a0
        have hbw6 : Ext w5 w6 := Ext.trans inferInstance hb
        clear hb
        replace x0 := hbw6.cell x0
        replace x1 := hbw6.cell x1
        replace a0 := a0.ext (w' := w6)
        replace a1 := a1.ext (w' := w6)
        replace a3 := a3.ext (w' := w6)
        replace e1 := Ext.trans e1 hbw6
        clear x_0_own
        go_wp2_with fail
        refine (toIntSS_any (w0 := w6) a1).mono ?_
        rintro e w7 ⟨x_1_d, x_1_m, x_1_vs, rfl, x_1_l, x_1_own, hb⟩
        have x_1 := x_1_own.readsAll' x_1_l a1
        have y0 : w7.cell? ⟨w6.heap.size, 0, none⟩ = some (.slice x_0_d M0.length x_0_m) := hb.cell (by go_simp)
        have y1 : w7.cell? ⟨w6.heap.size, 1, none⟩ = some (.slice x_0_d2 S0.length x_0_m2) := hb.cell (by go_simp)
        have hbw7 : Ext w6 w7 := Ext.trans inferInstance hb
        clear hb
        replace x0 := hbw7.cell x0
        replace x1 := hbw7.cell x1
        replace a0 := a0.ext (w' := w7)
        replace a1 := a1.ext (w' := w7)
        replace a3 := a3.ext (w' := w7)
        replace x_0 := x_0.ext (w' := w7)
        replace e1 := Ext.trans e1 hbw7
        clear x_1_own
        go_wp2_with fail
        refine (toIntS_any (w0 := w7) a3).mono ?_
        rintro e w8 ⟨x_3_d, x_3_m, rfl, x_3_own, hb⟩
        have x_3 := x_3_own.reads' a3
        have hbw8 : Ext w7 w8 := Ext.trans inferInstance hb
        clear hb
        replace x0 := hbw8.cell x0
        replace x1 := hbw8.cell x1
        replace y0 := hbw8.cell y0
        replace y1 := hbw8.cell y1
        replace a0 := a0.ext (w' := w8)
        replace a1 := a1.ext (w' := w8)
        replace a3 := a3.ext (w' := w8)
        replace x_0 := x_0.ext (w' := w8)
        replace x_1 := x_1.ext (w' := w8)
        replace e1 := Ext.trans e1 hbw8
        clear x_3_own
        go_wp2_with fail
        refine (implPA_any (w0 := w8) x_0 x_1 a2 x_3).mono ?_
        rintro e w9 ⟨rfl, hb⟩
        have hbw9 : Ext w8 w9 := Ext.trans inferInstance hb
        clear hb
        replace x0 := hbw9.cell x0
        replace x1 := hbw9.cell x1
        replace y0 := hbw9.cell y0
        replace y1 := hbw9.cell y1
        replace a0 := a0.ext (w' := w9)
        replace a1 := a1.ext (w' := w9)
        replace a3 := a3.ext (w' := w9)
        replace x_0 := x_0.ext (w' := w9)
        replace x_1 := x_1.ext (w' := w9)
        replace x_3 := x_3.ext (w' := w9)
        replace e1 := Ext.trans e1 hbw9
        generalize hr0 : (paR M0 S0 X1 n2 X3) = r0 at *
        replace hr0 := hid hr0
        have hn0 : (r0 != r0) = false := by simp
        generalize hr1 : (paB M0 S0 X1 n2 X3) = r1 at *
        replace hr1 := hid hr1
        have hn1 : (r1 != r1) = false := by simp
        go_upto_region 17 with fail
        go_cut [67] (fun q wx => q = .bool false ∧ Ext w9 wx)
        case first =>
          go_region_with (first
            | (go_at_call 12; refine (toProblem_any (w0 := w9) a0).mono ?_; rintro e wq ⟨qd, qm, qvs, qd2, qm2, qvs2, rfl, ql, ql2, qown, hq⟩; have pq := qown.prob' ql ql2 a0; have eq : Ext w9 wq := Ext.trans inferInstance hq; have y0' := eq.cell y0; have y1' := eq.cell y1)
            | (go_at_call 16; refine (eqProblem_any (w0 := wq) x_0.ext pq).mono ?_; rw [heq.out]; rintro e wq2 ⟨rfl, hq2⟩))
          all_goals
            go_wp2_with fail
            go_meet
            exact ⟨rfl, Ext.trans eq hq2⟩
        case rest =>
          obtain ⟨rfl, hbc⟩ := hcut
          have hb : Ext w9 wc := hbc
          clear hbc
          obtain ⟨w10, rfl⟩ : ∃ x : World, x = wc := ⟨_, rfl⟩
          have hbw10 : Ext w9 w10 := Ext.trans inferInstance hb
          clear hb
          replace x0 := hbw10.cell x0
          replace x1 := hbw10.cell x1
          replace y0 := hbw10.cell y0
          replace y1 := hbw10.cell y1
          replace a0 := a0.ext (w' := w10)
          replace a1 := a1.ext (w' := w10)
          replace a3 := a3.ext (w' := w10)
          replace x_0 := x_0.ext (w' := w10)
          replace x_1 := x_1.ext (w' := w10)
          replace x_3 := x_3.ext (w' := w10)
          replace e1 := Ext.trans e1 hbw10
          go_wp2_with fail
          refine (toIntSS_any (w0 := w10) a1).mono ?_
          rintro e w11 ⟨q1_d, q1_m, q1_vs, rfl, q1_l, q1_own, hb⟩
          have q1 := q1_own.readsAll' q1_l a1
          have hbw11 : Ext w10 w11 := Ext.trans inferInstance hb
          clear hb
          replace x0 := hbw11.cell x0
          replace x1 := hbw11.cell x1
          replace y0 := hbw11.cell y0
          replace y1 := hbw11.cell y1
          replace a0 := a0.ext (w' := w11)
          replace a1 := a1.ext (w' := w11)
          replace a3 := a3.ext (w' := w11)
          replace x_0 := x_0.ext (w' := w11)
          replace x_1 := x_1.ext (w' := w11)
          replace x_3 := x_3.ext (w' := w11)
          replace e1 := Ext.trans e1 hbw11
          clear q1_own
          go_wp2_with fail
          refine (eqIntSS_any (w0 := w11) x_1 q1).mono ?_
          rw [heq1.out]
          rintro e w12 ⟨rfl, hdr⟩
          have hb := hdr.ext
          clear hdr
          have hbw12 : Ext w11 w12 := Ext.trans inferInstance hb
          clear hb
          replace x0 := hbw12.cell x0
          replace x1 := hbw12.cell x1
          replace y0 := hbw12.cell y0
          replace y1 := hbw12.cell y1
          replace a0 := a0.ext (w' := w12)
          replace a1 := a1.ext (w' := w12)
          replace a3 := a3.ext (w' := w12)
          replace x_0 := x_0.ext (w' := w12)
          replace x_1 := x_1.ext (w' := w12)
          replace x_3 := x_3.ext (w' := w12)
          replace q1 := q1.ext (w' := w12)
          replace e1 := Ext.trans e1 hbw12
          go_wp2_with fail
          refine (toIntS_any (w0 := w12) a3).mono ?_
          rintro e w13 ⟨q3_d, q3_m, rfl, q3_own, hb⟩
          have q3 := q3_own.reads' a3
          have hbw13 : Ext w12 w13 := Ext.trans inferInstance hb
          clear hb
          replace x0 := hbw13.cell x0
          replace x1 := hbw13.cell x1
          replace y0 := hbw13.cell y0
          replace y1 := hbw13.cell y1
          replace a0 := a0.ext (w' := w13)
          replace a1 := a1.ext (w' := w13)
          replace a3 := a3.ext (w' := w13)
          replace x_0 := x_0.ext (w' := w13)
          replace x_1 := x_1.ext (w' := w13)
          replace x_3 := x_3.ext (w' := w13)
          replace q1 := q1.ext (w' := w13)
          replace e1 := Ext.trans e1 hbw13
          clear q3_own
          go_wp2_with fail
          refine (eqIntS_any (w0 := w13) x_3 q3).mono ?_
          rw [heq3.out]
          rintro e w14 ⟨rfl, hdr⟩
          have hb := hdr.ext
          clear hdr
          have hbw14 : Ext w13 w14 := Ext.trans inferInstance hb
          clear hb
          replace x0 := hbw14.cell x0
          replace x1 := hbw14.cell x1
          replace y0 := hbw14.cell y0
          replace y1 := hbw14.cell y1
          replace a0 := a0.ext (w' := w14)
          replace a1 := a1.ext (w' := w14)
          replace a3 := a3.ext (w' := w14)
          replace x_0 := x_0.ext (w' := w14)
          replace x_1 := x_1.ext (w' := w14)
          replace x_3 := x_3.ext (w' := w14)
          replace q1 := q1.ext (w' := w14)
          replace q3 := q3.ext (w' := w14)
          replace e1 := Ext.trans e1 hbw14
          go_wp2_with fail
          go_ret
          exact ⟨rfl, e1⟩

end Go.Proofs.Ytobfehekjapnhaa
