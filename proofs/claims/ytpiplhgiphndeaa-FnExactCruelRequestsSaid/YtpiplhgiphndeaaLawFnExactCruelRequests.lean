/- 'laws.FnExactCruelRequests' walked: it returns true for every input. Written by lawgen2.py. -/
import Derived.Test.YtpiplhgiphndeaaCri
import Derived.Test.YtpiplhgiphndeaaLawM
import Derived.Test.YtpiplhgiphndeaaGrA
import Derived.Deep.RegionWith
import Derived.Deep.Cut
import Derived.Deep.DeepCutAuto
namespace Go.Proofs.Ytpiplhgiphndeaa
open Go.RowKit

set_option maxHeartbeats 3200000 in
set_option maxRecDepth 100000 in
theorem lawFnExactCruelRequests_any {v0 : Value} {M0 : List (List Int)} {v1 : Value} {X1 : List Int} {n2 : Int} {w : World} (a0 : IsMet w v0 M0) (a1 : IsInts w v1 X1) (a2 : I64 n2) :
    Calls Try.prog 6 #[v0, v1, .int .i64 n2] w fun e w' => e = .returned (.bool true) ∧ Ext w w' := by
  have b0 := a0
  obtain ⟨v0a, rfl, hM0⟩ := b0
  obtain ⟨f0a, c0a, rfl, l0a⟩ := hM0.form
  clear hM0
  obtain ⟨f1, c1, rfl, l1⟩ := a1.form
  by_cases g1 : (1048576 : Int) < X1.length
  · have g1' : decide ((1048576 : Int) < X1.length) = true := by simpa using g1
    go_enter Try.func6, Try.ntmps6
    go_wp2_with fail
    go_ret
    exact ⟨rfl, inferInstance⟩
  · have g1' : decide ((1048576 : Int) < X1.length) = false := by simpa using g1
    by_cases g0 : (1048576 : Int) - ((M0.length + sumLen M0) : Nat) < 0
    · have gl0 := hid (show leftOf 1048576 (M0.length + sumLen M0) = -1 by rw [leftOf, if_pos g0])
      go_enter Try.func6, Try.ntmps6
      go_wp2_with fail
      refine (szMetric_any (w0 := w) a0 (by omega) (by omega)).mono ?_
      rw [gl0.out]; rintro e wz ⟨rfl, hb⟩
      go_wp2_with fail
      go_ret
      exact ⟨rfl, Ext.trans inferInstance hb⟩
    · have gl0 := hid (show leftOf 1048576 (M0.length + sumLen M0) = 1048576 - ((M0.length + sumLen M0) : Nat) by rw [leftOf, if_neg g0])
      have gn0 : 0 ≤ (1048576 : Int) - ((M0.length + sumLen M0) : Nat) := by omega
      have gm0 : (1048576 : Int) - ((M0.length + sumLen M0) : Nat) ≤ 1048576 := by omega
      have hsm0 : (M0.length + sumLen M0) ≤ 1048576 := by omega
      generalize hz0 : (1048576 : Int) - ((M0.length + sumLen M0) : Nat) = z0 at *
      replace hz0 := hid hz0
      clear g0
      replace hsm0 := hid hsm0
      -- all sizes are right
      have heq := hid (show eqR M0 M0 = true from eqR_iff.2 rfl)
      have heq1 := hid (show eqL X1 X1 = true from eqL_iff.2 rfl)
      go_enter Try.func6, Try.ntmps6
      go_wp2_with fail
      refine (szMetric_any (w0 := w) a0 (by omega) (by omega)).mono ?_
      rw [gl0.out]; rintro e w1 ⟨rfl, hb⟩
      have x0 : w1.cell? ⟨w.heap.size, 0, none⟩ = some (.slice f0a M0.length c0a) := hb.cell (by go_simp)
      have e1 : Ext w w1 := Ext.trans inferInstance hb
      clear hb
      replace a0 := a0.ext (w' := w1)
      replace a1 := a1.ext (w' := w1)
      go_wp2_with fail
      refine (toMetric_any (w0 := w1) a0).mono ?_
      rintro e w2 ⟨s0_d, s0_m, s0_vs, rfl, s0_l, s0_own, hb⟩
      have s0 := s0_own.met' s0_l a0
      clear s0_own
      have hbw2 : Ext w1 w2 := Ext.trans inferInstance hb
      replace x0 := hbw2.cell x0
      replace a0 := a0.ext (w' := w2)
      replace a1 := a1.ext (w' := w2)
      replace e1 := Ext.trans e1 hbw2
      go_wp2_with fail
      refine (toIntS_any (w0 := w2) a1).mono ?_
      rintro e w3 ⟨s1_d, s1_m, rfl, s1_own, hb⟩
      have s1 := s1_own.reads' a1
      clear s1_own
      have hbw3 : Ext w2 w3 := Ext.trans inferInstance hb
      replace x0 := hbw3.cell x0
      replace a0 := a0.ext (w' := w3)
      replace a1 := a1.ext (w' := w3)
      replace s0 := s0.ext (w' := w3)
      replace e1 := Ext.trans e1 hbw3
      go_wp2_with fail
      refine (specCru_any (w0 := w3) s0 s1 a2).mono ?_
      rintro e w4 ⟨z0_d, z0_m, rfl, z0, hb⟩
      have hbw4 : Ext w3 w4 := Ext.trans inferInstance hb
      replace x0 := hbw4.cell x0
      replace a0 := a0.ext (w' := w4)
      replace a1 := a1.ext (w' := w4)
      replace s0 := s0.ext (w' := w4)
      replace s1 := s1.ext (w' := w4)
      replace e1 := Ext.trans e1 hbw4
      clear s0 s1
      have EB : Ext w4 w4 := Ext.refl w4
      have hBo : w4.heap.size ≤ w4.heap.size := Nat.le_refl _
      have x0_4 := EB.cell x0
      go_wp2_with fail
      refine (toMetric_any (w0 := w4) a0).mono ?_
      rintro e w5 ⟨x_0_d, x_0_m, x_0_vs, rfl, x_0_l, x_0_own, hb⟩
      have x_0 := x_0_own.met' x_0_l a0
      have OW := x_0_own
      clear x_0_own
      try simp only [List.append_assoc] at OW
      have hbw5 : Ext w4 w5 := Ext.trans inferInstance hb
      replace EB := Ext.trans EB hbw5
      replace hBo : w4.heap.size ≤ w5.heap.size := EB.size
      go_wp2_with fail
      refine (toIntS_any (w0 := w4) a1).mono ?_
      rintro e w6 ⟨x_1_d, x_1_m, rfl, x_1_own, hb⟩
      have x_1 := x_1_own.reads' a1
      replace OW := Own.add x_1_own OW hb hBo
      clear x_1_own
      try simp only [List.append_assoc] at OW
      have hbw6 : Ext w5 w6 := Ext.trans inferInstance hb
      have y0 : w6.cell? ⟨w5.heap.size, 0, none⟩ = some (.slice x_0_d M0.length x_0_m) := hb.cell (by go_simp)
      replace x_0 := x_0.ext (w' := w6)
      replace EB := Ext.trans EB hbw6
      replace hBo : w4.heap.size ≤ w6.heap.size := EB.size
      go_wp2_with fail
      refine (implCru_any (w0 := w6) x_0 x_1 a2).mono ?_
      rintro e w7 ⟨g0_d, g0_m, rfl, g_own, hb⟩
      replace OW := Own.add g_own OW hb hBo
      clear g_own
      try simp only [List.append_assoc] at OW
      have hbw7 : Ext w6 w7 := Ext.trans inferInstance hb
      replace y0 := hbw7.cell y0
      replace x_0 := x_0.ext (w' := w7)
      replace x_1 := x_1.ext (w' := w7)
      replace EB := Ext.trans EB hbw7
      replace hBo : w4.heap.size ≤ w7.heap.size := EB.size
      have hbd0 := hid (crR_len (M := M0) (a := X1) (n := n2))
      generalize hr0 : (crR M0 X1 n2) = r0 at *
      replace hr0 := hid hr0
      have hq0 := hid (show eqL r0 r0 = true from eqL_iff.2 rfl)
      generalize hr1 : (crB M0 X1 n2) = r1 at *
      replace hr1 := hid hr1
      have hn1 : (r1 != r1) = false := by simp
      have EX : Ext w7 w7 := Ext.refl w7
      replace OW := Own.nilr OW
      simp only [List.append_assoc] at OW
      have rd0_7 := (Own.one OW).reads' z0
      go_wp2_with fail
      refine (eqIntS_any (w0 := w7) rd0_7 (z0.ext (w' := w7))).mono ?_
      rw [hq0.out]
      rintro e w8 ⟨rfl, hdr⟩
      have hb := hdr.ext
      clear hdr
      have hbw8 : Ext w7 w8 := Ext.trans inferInstance hb
      replace y0 := hbw8.cell y0
      replace EB := Ext.trans EB hbw8
      replace EX := Ext.trans EX hbw8
      replace OW := OW.ext (w' := w8)
      have x0_8 := EB.cell x0
      go_upto_region 13 with fail
      go_cut [60] (fun q wx => q = .bool false ∧ Ext w8 wx)
      case first =>
        go_region_with (first
          | (go_at_call 10; refine (toMetric_any (w0 := w4) a0).mono ?_; rintro e wq ⟨qd, qm, qvs, rfl, ql, qown, hq⟩; have pq := qown.met' ql a0; have eq : Ext w8 wq := Ext.trans inferInstance hq; have y0' := eq.cell y0; have EXq := Ext.trans EX eq)
          | (go_at_call 13; refine (eqMetric_any (w0 := wq) (x_0.ext (w' := wq)) pq).mono ?_; rw [heq.out]; rintro e wq2 ⟨rfl, hq2⟩))
        all_goals
          go_wp2_with fail
          go_meet
          exact ⟨rfl, Ext.trans eq hq2⟩
      case rest =>
        obtain ⟨rfl, hbc⟩ := hcut
        have hb : Ext w8 wc := hbc
        clear hbc
        obtain ⟨w9, rfl⟩ : ∃ x : World, x = wc := ⟨_, rfl⟩
        have hbw9 : Ext w8 w9 := Ext.trans inferInstance hb
        replace y0 := hbw9.cell y0
        replace EB := Ext.trans EB hbw9
        replace EX := Ext.trans EX hbw9
        replace OW := OW.ext (w' := w9)
        go_wp2_with fail
        refine (toIntS_any (w0 := w4) a1).mono ?_
        rintro e w10 ⟨q1_d, q1_m, rfl, q1_own, hb⟩
        have q1 := q1_own.reads' a1
        clear q1_own
        have hbw10 : Ext w9 w10 := Ext.trans inferInstance hb
        replace y0 := hbw10.cell y0
        replace EB := Ext.trans EB hbw10
        replace EX := Ext.trans EX hbw10
        replace OW := OW.ext (w' := w10)
        go_wp2_with fail
        refine (eqIntS_any (w0 := w10) (x_1.ext (w' := w10)) q1).mono ?_
        rw [heq1.out]
        rintro e w11 ⟨rfl, hdr⟩
        have hb := hdr.ext
        clear hdr
        have hbw11 : Ext w10 w11 := Ext.trans inferInstance hb
        replace y0 := hbw11.cell y0
        replace q1 := q1.ext (w' := w11)
        replace EB := Ext.trans EB hbw11
        replace EX := Ext.trans EX hbw11
        replace OW := OW.ext (w' := w11)
        clear q1
        -- the marks
        replace hBo : w4.heap.size ≤ w11.heap.size := EB.size
        have hsz0 := hsm0.out
        have hsz1 := (show X1.length ≤ 1048576 by omega)
        go_wp2_with fail
        replace OW := Own.rot OW
        simp only [List.append_assoc] at OW
        replace OW := Own.rot OW
        simp only [List.append_assoc] at OW
        refine (markMetric_any (k := 1) OW x_0_l hBo (by omega) (by omega) (by omega) (by omega)).mono ?_
        rintro e w12 ⟨rfl, OW', hbm⟩
        replace OW := OW'
        clear OW'
        replace EB := Ext.mark EB hbm
        clear hbm
        replace hBo : w4.heap.size ≤ w12.heap.size := EB.size
        obtain ⟨k1, hk1, hk1a, hk1b⟩ : ∃ x : Int, 1 + sumLen M0 = x ∧ 0 ≤ x ∧ x ≤ 1048577 := ⟨_, rfl, by omega, by omega⟩
        rw [hk1]
        clear hk1
        go_wp2_with fail
        replace OW := Own.rot OW
        simp only [List.append_assoc] at OW
        replace OW := Own.rot OW
        simp only [List.append_assoc] at OW
        replace OW := Own.rot OW
        simp only [List.append_assoc] at OW
        refine (markIntS_any (k := k1) (Own.one OW) hBo (by omega) (by omega) (by omega)).mono ?_
        rintro e w13 ⟨rfl, OW', hbm⟩
        replace OW' := Own.eno OW'
        replace OW := OW'
        clear OW'
        replace EB := Ext.mark EB hbm
        clear hbm
        replace hBo : w4.heap.size ≤ w13.heap.size := EB.size
        obtain ⟨k2, hk2, hk2a, hk2b⟩ : ∃ x : Int, k1 + X1.length = x ∧ 0 ≤ x ∧ x ≤ 2097153 := ⟨_, rfl, by omega, by omega⟩
        rw [hk2]
        clear hk2
        replace OW := Own.rot OW
        simp only [List.append_assoc] at OW
        replace OW := Own.rot OW
        simp only [List.append_assoc] at OW
        replace OW := Own.rot OW
        simp only [List.append_assoc] at OW
        have rd0_13 := (Own.one OW).reads' z0
        go_wp2_with fail
        refine (eqIntS_any (w0 := w13) rd0_13 (z0.ext (w' := w13))).mono ?_
        rw [hq0.out]
        rintro e w14 ⟨rfl, hdr⟩
        have hb := hdr.ext
        clear hdr
        have hbw14 : Ext w13 w14 := Ext.trans inferInstance hb
        replace EB := Ext.trans EB hbw14
        replace OW := OW.ext (w' := w14)
        replace hBo : w4.heap.size ≤ w14.heap.size := EB.size
        -- the marks in the results
        have hbq0 := hbd0.out
        go_wp2_with fail
        refine (markIntS_any (k := 1) (Own.one OW) hBo (by omega) (by omega) (by omega)).mono ?_
        rintro e w15 ⟨rfl, OW', hbm⟩
        replace OW' := Own.eno OW'
        replace OW := OW'
        clear OW'
        replace EB := Ext.mark EB hbm
        clear hbm
        replace hBo : w4.heap.size ≤ w15.heap.size := EB.size
        obtain ⟨m1, hm1, hm1a, hm1b⟩ : ∃ x : Int, 1 + r0.length = x ∧ 0 ≤ x ∧ x ≤ 4000001 := ⟨_, rfl, by omega, by omega⟩
        rw [hm1]
        have hmm : (m1 != m1) = false := by simp
        go_wp2_with fail
        have hd0_15 := (Own.one OW).readsIota (by omega) (by omega) hbd0.out
        refine (heldIntS_any (w0 := w15) (k := 1) hd0_15 (by omega) (by omega)).mono ?_
        rw [heldK_iota, hm1]
        rintro e w16 ⟨rfl, hdr⟩
        have hb := hdr.ext
        clear hdr
        have hbw16 : Ext w15 w16 := Ext.trans inferInstance hb
        replace EB := Ext.trans EB hbw16
        replace OW := OW.ext (w' := w16)
        -- the second call
        have x0_16 := EB.cell x0
        go_wp2_with fail
        refine (toMetric_any (w0 := w4) a0).mono ?_
        rintro e w17 ⟨t_0_d, t_0_m, t_0_vs, rfl, t_0_l, t_0_own, hb⟩
        have t_0 := t_0_own.met' t_0_l a0
        clear t_0_own
        have hbw17 : Ext w16 w17 := Ext.trans inferInstance hb
        replace EB := Ext.trans EB hbw17
        replace OW := OW.ext (w' := w17)
        go_wp2_with fail
        refine (toIntS_any (w0 := w4) a1).mono ?_
        rintro e w18 ⟨t_1_d, t_1_m, rfl, t_1_own, hb⟩
        have t_1 := t_1_own.reads' a1
        clear t_1_own
        have hbw18 : Ext w17 w18 := Ext.trans inferInstance hb
        replace t_0 := t_0.ext (w' := w18)
        replace EB := Ext.trans EB hbw18
        replace OW := OW.ext (w' := w18)
        go_wp2_with fail
        refine (implCru_any (w0 := w18) t_0 t_1 a2).mono ?_
        rw [hr0.out, hr1.out]
        rintro e w19 ⟨h0_d, h0_m, rfl, h_own, hb⟩
        have hbw19 : Ext w18 w19 := Ext.trans inferInstance hb
        replace t_0 := t_0.ext (w' := w19)
        replace t_1 := t_1.ext (w' := w19)
        replace EB := Ext.trans EB hbw19
        replace OW := OW.ext (w' := w19)
        have hh0 := h_own.reads' z0
        have EH : Ext w19 w19 := Ext.refl w19
        go_wp2_with fail
        refine (eqIntS_any (w0 := w19) (hh0.ext (w' := w19)) (z0.ext (w' := w19))).mono ?_
        rw [hq0.out]
        rintro e w20 ⟨rfl, hdr⟩
        have hb := hdr.ext
        clear hdr
        have hbw20 : Ext w19 w20 := Ext.trans inferInstance hb
        replace EB := Ext.trans EB hbw20
        replace EH := Ext.trans EH hbw20
        replace OW := OW.ext (w' := w20)
        go_wp2_with fail
        have hd0_20 := (Own.one OW).readsIota (by omega) (by omega) hbd0.out
        refine (heldIntS_any (w0 := w20) (k := 1) hd0_20 (by omega) (by omega)).mono ?_
        rw [heldK_iota, hm1]
        rintro e w21 ⟨rfl, hdr⟩
        have hb := hdr.ext
        clear hdr
        have hbw21 : Ext w20 w21 := Ext.trans inferInstance hb
        replace EB := Ext.trans EB hbw21
        replace EH := Ext.trans EH hbw21
        replace OW := OW.ext (w' := w21)
        go_wp2_with fail
        go_ret
        exact ⟨rfl, Ext.trans e1 EB⟩

end Go.Proofs.Ytpiplhgiphndeaa
