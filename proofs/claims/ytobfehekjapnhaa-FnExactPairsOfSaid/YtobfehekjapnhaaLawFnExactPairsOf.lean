/- 'laws.FnExactPairsOf' walked: it returns true for every input. Written by lawgen2.py. -/
import Derived.Test.YtobfehekjapnhaaPairsX
import Derived.Test.YtobfehekjapnhaaLawFlat
import Derived.Test.YtobfehekjapnhaaMark
import Derived.Deep.RegionWith
import Derived.Deep.Cut
import Derived.Deep.DeepCutAuto
namespace Go.Proofs.Ytobfehekjapnhaa
open Go.RowKit

set_option maxHeartbeats 3200000 in
set_option maxRecDepth 100000 in
theorem lawFnExactPairsOf_any {v0 : Value} {M0 S0 : List (List Int)} {v1 : Value} {X1 : List (List Int)} {n2 : Int} {w : World} (a0 : IsProb w v0 M0 S0) (a1 : IsRows w v1 X1) (a2 : I64 n2) :
    Calls Try.prog 6 #[v0, v1, .int .i64 n2] w fun e w' => e = .returned (.bool true) ∧ Ext w w' := by
  have b0 := a0
  obtain ⟨v0a, v0b, rfl, hM0, hS0⟩ := b0
  obtain ⟨f0a, c0a, rfl, l0a⟩ := hM0.form
  obtain ⟨f0b, c0b, rfl, l0b⟩ := hS0.form
  clear hM0 hS0
  obtain ⟨f1, c1, rfl, l1⟩ := a1.form
  by_cases g0 : (1048576 : Int) - ((M0.length + sumLen M0 + (S0.length + sumLen S0)) : Nat) < 0
  · have gl0 := hid (show leftOf 1048576 (M0.length + sumLen M0 + (S0.length + sumLen S0)) = -1 by rw [leftOf, if_pos g0])
    go_enter Try.func6, Try.ntmps6
    go_wp2_with fail
    refine (szProblem_any (w0 := w) a0 (by omega) (by omega)).mono ?_
    rw [gl0.out]; rintro e wz ⟨rfl, hb⟩
    go_wp2_with fail
    go_ret
    exact ⟨rfl, Ext.trans inferInstance hb⟩
  · have gl0 := hid (show leftOf 1048576 (M0.length + sumLen M0 + (S0.length + sumLen S0)) = 1048576 - ((M0.length + sumLen M0 + (S0.length + sumLen S0)) : Nat) by rw [leftOf, if_neg g0])
    have gn0 : 0 ≤ (1048576 : Int) - ((M0.length + sumLen M0 + (S0.length + sumLen S0)) : Nat) := by omega
    have gm0 : (1048576 : Int) - ((M0.length + sumLen M0 + (S0.length + sumLen S0)) : Nat) ≤ 1048576 := by omega
    have hsm0 : (M0.length + sumLen M0 + (S0.length + sumLen S0)) ≤ 1048576 := by omega
    generalize hz0 : (1048576 : Int) - ((M0.length + sumLen M0 + (S0.length + sumLen S0)) : Nat) = z0 at *
    replace hz0 := hid hz0
    clear g0
    replace hsm0 := hid hsm0
    by_cases g1 : (z0 : Int) - ((X1.length + sumLen X1) : Nat) < 0
    · have gl1 := hid (show leftOf z0 (X1.length + sumLen X1) = -1 by rw [leftOf, if_pos g1])
      go_enter Try.func6, Try.ntmps6
      go_wp2_with fail
      refine (szProblem_any (w0 := w) a0 (by omega) (by omega)).mono ?_
      rw [gl0.out]; rintro e w1 ⟨rfl, hb⟩
      have x0 : w1.cell? ⟨w.heap.size, 0, none⟩ = some (.slice f0a M0.length c0a) := hb.cell (by go_simp)
      have x1 : w1.cell? ⟨w.heap.size, 1, none⟩ = some (.slice f0b S0.length c0b) := hb.cell (by go_simp)
      have e1 : Ext w w1 := Ext.trans inferInstance hb
      clear hb
      go_wp2_with fail
      refine (szIntSS_any (w0 := w) a1 (by omega) (by omega)).mono ?_
      rw [gl1.out]; rintro e wz ⟨rfl, hwz⟩; rw [hwz]; clear hwz
      go_wp2_with fail
      go_ret
      exact ⟨rfl, e1⟩
    · have gl1 := hid (show leftOf z0 (X1.length + sumLen X1) = z0 - ((X1.length + sumLen X1) : Nat) by rw [leftOf, if_neg g1])
      have gn1 : 0 ≤ (z0 : Int) - ((X1.length + sumLen X1) : Nat) := by omega
      have gm1 : (z0 : Int) - ((X1.length + sumLen X1) : Nat) ≤ 1048576 := by omega
      have hsm1 : (X1.length + sumLen X1) ≤ 1048576 := by omega
      generalize hz1 : (z0 : Int) - ((X1.length + sumLen X1) : Nat) = z1 at *
      replace hz1 := hid hz1
      clear g1
      replace hsm1 := hid hsm1
      -- all sizes are right
      have heq := hid (show eqP M0 S0 M0 S0 = true from eqP_iff.2 ⟨rfl, rfl⟩)
      have heq1 := hid (show eqR X1 X1 = true from eqR_iff.2 rfl)
      go_enter Try.func6, Try.ntmps6
      go_wp2_with fail
      refine (szProblem_any (w0 := w) a0 (by omega) (by omega)).mono ?_
      rw [gl0.out]; rintro e w1 ⟨rfl, hb⟩
      have x0 : w1.cell? ⟨w.heap.size, 0, none⟩ = some (.slice f0a M0.length c0a) := hb.cell (by go_simp)
      have x1 : w1.cell? ⟨w.heap.size, 1, none⟩ = some (.slice f0b S0.length c0b) := hb.cell (by go_simp)
      have e1 : Ext w w1 := Ext.trans inferInstance hb
      clear hb
      go_wp2_with fail
      refine (szIntSS_any (w0 := w) a1 (by omega) (by omega)).mono ?_
      rw [gl1.out]; rintro e wz ⟨rfl, hwz⟩; rw [hwz]; clear hwz
      replace a0 := a0.ext (w' := w1)
      replace a1 := a1.ext (w' := w1)
      go_wp2_with fail
      refine (toProblem_any (w0 := w1) a0).mono ?_
      rintro e w2 ⟨s0_d, s0_m, s0_vs, s0_d2, s0_m2, s0_vs2, rfl, s0_l, s0_l2, s0_own, hb⟩
      have s0 := s0_own.prob' s0_l s0_l2 a0
      clear s0_own
      have hbw2 : Ext w1 w2 := Ext.trans inferInstance hb
      replace x0 := hbw2.cell x0
      replace x1 := hbw2.cell x1
      replace a0 := a0.ext (w' := w2)
      replace a1 := a1.ext (w' := w2)
      replace e1 := Ext.trans e1 hbw2
      go_wp2_with fail
      refine (toIntSS_any (w0 := w2) a1).mono ?_
      rintro e w3 ⟨s1_d, s1_m, s1_vs, rfl, s1_l, s1_own, hb⟩
      have s1 := s1_own.readsAll' s1_l a1
      clear s1_own
      have hbw3 : Ext w2 w3 := Ext.trans inferInstance hb
      replace x0 := hbw3.cell x0
      replace x1 := hbw3.cell x1
      replace a0 := a0.ext (w' := w3)
      replace a1 := a1.ext (w' := w3)
      replace s0 := s0.ext (w' := w3)
      replace e1 := Ext.trans e1 hbw3
      go_wp2_with fail
      refine (specPairs_any (w0 := w3) s0 s1 a2).mono ?_
      rintro e w4 ⟨z0_d, z0_m, rfl, z0, hb⟩
      have hbw4 : Ext w3 w4 := Ext.trans inferInstance hb
      replace x0 := hbw4.cell x0
      replace x1 := hbw4.cell x1
      replace a0 := a0.ext (w' := w4)
      replace a1 := a1.ext (w' := w4)
      replace s0 := s0.ext (w' := w4)
      replace s1 := s1.ext (w' := w4)
      replace e1 := Ext.trans e1 hbw4
      clear s0 s1
      have EB : Ext w4 w4 := Ext.refl w4
      have hBo : w4.heap.size ≤ w4.heap.size := Nat.le_refl _
      have x0_4 := EB.cell x0
      have x1_4 := EB.cell x1
      go_wp2_with fail
      refine (toProblem_any (w0 := w4) a0).mono ?_
      rintro e w5 ⟨x_0_d, x_0_m, x_0_vs, x_0_d2, x_0_m2, x_0_vs2, rfl, x_0_l, x_0_l2, x_0_own, hb⟩
      have x_0 := x_0_own.prob' x_0_l x_0_l2 a0
      have OW := x_0_own
      clear x_0_own
      try simp only [List.append_assoc] at OW
      have hbw5 : Ext w4 w5 := Ext.trans inferInstance hb
      replace EB := Ext.trans EB hbw5
      replace hBo : w4.heap.size ≤ w5.heap.size := EB.size
      go_wp2_with fail
      refine (toIntSS_any (w0 := w4) a1).mono ?_
      rintro e w6 ⟨x_1_d, x_1_m, x_1_vs, rfl, x_1_l, x_1_own, hb⟩
      have x_1 := x_1_own.readsAll' x_1_l a1
      replace OW := Own.add x_1_own OW hb hBo
      clear x_1_own
      try simp only [List.append_assoc] at OW
      have hbw6 : Ext w5 w6 := Ext.trans inferInstance hb
      have y0 : w6.cell? ⟨w5.heap.size, 0, none⟩ = some (.slice x_0_d M0.length x_0_m) := hb.cell (by go_simp)
      have y1 : w6.cell? ⟨w5.heap.size, 1, none⟩ = some (.slice x_0_d2 S0.length x_0_m2) := hb.cell (by go_simp)
      replace x_0 := x_0.ext (w' := w6)
      replace EB := Ext.trans EB hbw6
      replace hBo : w4.heap.size ≤ w6.heap.size := EB.size
      go_wp2_with fail
      refine (implPairs_any (w0 := w6) x_0 x_1 a2).mono ?_
      rintro e w7 ⟨g0_d, g0_m, rfl, g_own, hb⟩
      replace OW := Own.add g_own OW hb hBo
      clear g_own
      try simp only [List.append_assoc] at OW
      have hbw7 : Ext w6 w7 := Ext.trans inferInstance hb
      replace y0 := hbw7.cell y0
      replace y1 := hbw7.cell y1
      replace x_0 := x_0.ext (w' := w7)
      replace x_1 := x_1.ext (w' := w7)
      replace EB := Ext.trans EB hbw7
      replace hBo : w4.heap.size ≤ w7.heap.size := EB.size
      have hbd0 := hid (prsL_len (M := M0) (S := S0) (N := X1) (s := n2))
      generalize hr0 : (prsL M0 S0 X1 n2) = r0 at *
      replace hr0 := hid hr0
      have hfl0 := hid (show r0.flatten.length = r0.length * 2 from flat_len z0.all.2.1)
      generalize hr1 : (prB M0 S0 X1 n2) = r1 at *
      replace hr1 := hid hr1
      have hn1 : (r1 != r1) = false := by simp
      have EX : Ext w7 w7 := Ext.refl w7
      replace OW := Own.nilr OW
      simp only [List.append_assoc] at OW
      have rd0_7 := (Own.one OW).readsFlat' z0
      go_wp2_with fail
      refine (eqF_same (w0 := w7) rd0_7 (z0.ext (w' := w7))).mono ?_
      rintro e w8 ⟨rfl, hb⟩
      have hbw8 : Ext w7 w8 := Ext.trans inferInstance hb
      replace y0 := hbw8.cell y0
      replace y1 := hbw8.cell y1
      replace EB := Ext.trans EB hbw8
      replace EX := Ext.trans EX hbw8
      replace OW := OW.ext (w' := w8)
      have x0_8 := EB.cell x0
      have x1_8 := EB.cell x1
      go_upto_region 14 with fail
      go_cut [62] (fun q wx => q = .bool false ∧ Ext w8 wx)
      case first =>
        go_region_with (first
          | (go_at_call 12; refine (toProblem_any (w0 := w4) a0).mono ?_; rintro e wq ⟨qd, qm, qvs, qd2, qm2, qvs2, rfl, ql, ql2, qown, hq⟩; have pq := qown.prob' ql ql2 a0; have eq : Ext w8 wq := Ext.trans inferInstance hq; have y0' := eq.cell y0; have y1' := eq.cell y1; have EXq := Ext.trans EX eq)
          | (go_at_call 16; refine (eqProblem_any (w0 := wq) (x_0.ext (w' := wq)) pq).mono ?_; rw [heq.out]; rintro e wq2 ⟨rfl, hq2⟩))
        all_goals
          go_wp2_with fail
          go_meet
          exact ⟨rfl, Ext.trans eq hq2⟩
      case rest =>
        obtain ⟨rfl, hbc⟩ := hcut
        have hb : Ext w8 wc := hbc
        clear hbc
        obtain ⟨w9, rfl⟩ : ∃ x : World, x = wc := ⟨_, rfl⟩
        have hbw9 : Ext w8 w9 := Ext.trans inferInstance hb
        replace y0 := hbw9.cell y0
        replace y1 := hbw9.cell y1
        replace EB := Ext.trans EB hbw9
        replace EX := Ext.trans EX hbw9
        replace OW := OW.ext (w' := w9)
        go_wp2_with fail
        refine (toIntSS_any (w0 := w4) a1).mono ?_
        rintro e w10 ⟨q1_d, q1_m, q1_vs, rfl, q1_l, q1_own, hb⟩
        have q1 := q1_own.readsAll' q1_l a1
        clear q1_own
        have hbw10 : Ext w9 w10 := Ext.trans inferInstance hb
        replace y0 := hbw10.cell y0
        replace y1 := hbw10.cell y1
        replace EB := Ext.trans EB hbw10
        replace EX := Ext.trans EX hbw10
        replace OW := OW.ext (w' := w10)
        go_wp2_with fail
        refine (eqIntSS_any (w0 := w10) (x_1.ext (w' := w10)) q1).mono ?_
        rw [heq1.out]
        rintro e w11 ⟨rfl, hdr⟩
        have hb := hdr.ext
        clear hdr
        have hbw11 : Ext w10 w11 := Ext.trans inferInstance hb
        replace y0 := hbw11.cell y0
        replace y1 := hbw11.cell y1
        replace q1 := q1.ext (w' := w11)
        replace EB := Ext.trans EB hbw11
        replace EX := Ext.trans EX hbw11
        replace OW := OW.ext (w' := w11)
        clear q1
        -- the marks
        replace hBo : w4.heap.size ≤ w11.heap.size := EB.size
        have hsz0 := hsm0.out
        have hsz1 := hsm1.out
        go_wp2_with fail
        replace OW := Own.rot OW
        simp only [List.append_assoc] at OW
        replace OW := Own.rot OW
        simp only [List.append_assoc] at OW
        refine (markProblem_any (k := 1) OW x_0_l x_0_l2 hBo (by omega) (by omega) (by omega) (by omega) (by omega) (by omega)).mono ?_
        rintro e w12 ⟨rfl, OW', hbm⟩
        replace OW := OW'
        clear OW'
        replace EB := Ext.mark EB hbm
        clear hbm
        replace hBo : w4.heap.size ≤ w12.heap.size := EB.size
        obtain ⟨k1, hk1, hk1a, hk1b⟩ : ∃ x : Int, 1 + sumLen M0 + sumLen S0 = x ∧ 0 ≤ x ∧ x ≤ 1048577 := ⟨_, rfl, by omega, by omega⟩
        rw [hk1]
        clear hk1
        go_wp2_with fail
        replace OW := Own.rot OW
        simp only [List.append_assoc] at OW
        replace OW := Own.rot OW
        simp only [List.append_assoc] at OW
        replace OW := Own.rot OW
        simp only [List.append_assoc] at OW
        replace OW := Own.rot OW
        simp only [List.append_assoc] at OW
        refine (markIntSS_any (k := k1) OW x_1_l hBo (by omega) (by omega) (by omega) (by omega)).mono ?_
        rintro e w13 ⟨rfl, OW', hbm⟩
        replace OW := OW'
        clear OW'
        replace EB := Ext.mark EB hbm
        clear hbm
        replace hBo : w4.heap.size ≤ w13.heap.size := EB.size
        obtain ⟨k2, hk2, hk2a, hk2b⟩ : ∃ x : Int, k1 + sumLen X1 = x ∧ 0 ≤ x ∧ x ≤ 2097153 := ⟨_, rfl, by omega, by omega⟩
        rw [hk2]
        clear hk2
        replace OW := Own.rot OW
        simp only [List.append_assoc] at OW
        replace OW := Own.rot OW
        simp only [List.append_assoc] at OW
        replace OW := Own.rot OW
        simp only [List.append_assoc] at OW
        replace OW := Own.rot OW
        simp only [List.append_assoc] at OW
        have rd0_13 := (Own.one OW).readsFlat' z0
        go_wp2_with fail
        refine (eqF_same (w0 := w13) rd0_13 (z0.ext (w' := w13))).mono ?_
        rintro e w14 ⟨rfl, hb⟩
        have hbw14 : Ext w13 w14 := Ext.trans inferInstance hb
        replace EB := Ext.trans EB hbw14
        replace OW := OW.ext (w' := w14)
        replace hBo : w4.heap.size ≤ w14.heap.size := EB.size
        -- the marks in the results
        have hbq0 := hbd0.out
        go_wp2_with fail
        refine (markF_any (k := 1) (Own.one OW) hfl0.out (by omega) (by omega) (by omega)).mono ?_
        rintro e w15 ⟨rfl, OW', hbm⟩
        replace OW' := Own.eno OW'
        replace OW := OW'
        clear OW'
        replace EB := Ext.mark EB hbm
        clear hbm
        replace hBo : w4.heap.size ≤ w15.heap.size := EB.size
        obtain ⟨m1, hm1, hm1a, hm1b⟩ : ∃ x : Int, 1 + ((r0.length * 2 : Nat) : Int) = x ∧ 0 ≤ x ∧ x ≤ 4000001 := ⟨_, rfl, by omega, by omega⟩
        rw [hm1]
        have hmm : (m1 != m1) = false := by simp
        go_wp2_with fail
        have hd0_15 := (Own.one OW).readsMarkF (by have := hbd0.out; omega)
        refine (heldF_any (w0 := w15) (k := 1) hd0_15 (by omega) (by omega)).mono ?_
        rw [hm1]
        rintro e w16 ⟨rfl, hb⟩
        have hbw16 : Ext w15 w16 := Ext.trans inferInstance hb
        replace EB := Ext.trans EB hbw16
        replace OW := OW.ext (w' := w16)
        -- the second call
        have x0_16 := EB.cell x0
        have x1_16 := EB.cell x1
        go_wp2_with fail
        refine (toProblem_any (w0 := w4) a0).mono ?_
        rintro e w17 ⟨t_0_d, t_0_m, t_0_vs, t_0_d2, t_0_m2, t_0_vs2, rfl, t_0_l, t_0_l2, t_0_own, hb⟩
        have t_0 := t_0_own.prob' t_0_l t_0_l2 a0
        clear t_0_own
        have hbw17 : Ext w16 w17 := Ext.trans inferInstance hb
        replace EB := Ext.trans EB hbw17
        replace OW := OW.ext (w' := w17)
        go_wp2_with fail
        refine (toIntSS_any (w0 := w4) a1).mono ?_
        rintro e w18 ⟨t_1_d, t_1_m, t_1_vs, rfl, t_1_l, t_1_own, hb⟩
        have t_1 := t_1_own.readsAll' t_1_l a1
        clear t_1_own
        have hbw18 : Ext w17 w18 := Ext.trans inferInstance hb
        replace t_0 := t_0.ext (w' := w18)
        replace EB := Ext.trans EB hbw18
        replace OW := OW.ext (w' := w18)
        go_wp2_with fail
        refine (implPairs_any (w0 := w18) t_0 t_1 a2).mono ?_
        rw [hr0.out, hr1.out]
        rintro e w19 ⟨h0_d, h0_m, rfl, h_own, hb⟩
        have hbw19 : Ext w18 w19 := Ext.trans inferInstance hb
        replace t_0 := t_0.ext (w' := w19)
        replace t_1 := t_1.ext (w' := w19)
        replace EB := Ext.trans EB hbw19
        replace OW := OW.ext (w' := w19)
        have hh0 := h_own.readsFlat' z0
        have EH : Ext w19 w19 := Ext.refl w19
        go_wp2_with fail
        refine (eqF_same (w0 := w19) (hh0.ext (w' := w19)) (z0.ext (w' := w19))).mono ?_
        rintro e w20 ⟨rfl, hb⟩
        have hbw20 : Ext w19 w20 := Ext.trans inferInstance hb
        replace EB := Ext.trans EB hbw20
        replace EH := Ext.trans EH hbw20
        replace OW := OW.ext (w' := w20)
        go_wp2_with fail
        have hd0_20 := (Own.one OW).readsMarkF (by have := hbd0.out; omega)
        refine (heldF_any (w0 := w20) (k := 1) hd0_20 (by omega) (by omega)).mono ?_
        rw [hm1]
        rintro e w21 ⟨rfl, hb⟩
        have hbw21 : Ext w20 w21 := Ext.trans inferInstance hb
        replace EB := Ext.trans EB hbw21
        replace EH := Ext.trans EH hbw21
        replace OW := OW.ext (w' := w21)
        go_wp2_with fail
        go_ret
        exact ⟨rfl, Ext.trans e1 EB⟩

end Go.Proofs.Ytobfehekjapnhaa
