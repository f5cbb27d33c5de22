/- 'laws.FnExactLeastCost' walked: it returns true for every input. Written by lawgen.py. -/
import Derived.Test.YtbclgdajgaljkaaWorkX
import Derived.Test.YtbclgdajgaljkaaReads
import Derived.Deep.RegionWith
import Derived.Deep.Cut
import Derived.Deep.DeepCutAuto
namespace Go.Proofs.Ytbclgdajgaljkaa
open Go.RowKit

set_option maxHeartbeats 1600000 in
set_option maxRecDepth 100000 in
theorem lawFnExactLeastCost_any {v0 : Value} {M0 S0 : List (List Int)} {n1 : Int} {v2 : Value} {X2 : List Int} {w : World} (a0 : IsProb w v0 M0 S0) (a1 : I64 n1) (a2 : IsInts w v2 X2) :
    Calls Try.prog 12 #[v0, .int .i64 n1, v2] w fun e w' => e = .returned (.bool true) ∧ Ext w w' := by
  have b0 := a0
  obtain ⟨v0a, v0b, rfl, hM0, hS0⟩ := b0
  obtain ⟨f0a, c0a, rfl, l0a⟩ := hM0.form
  obtain ⟨f0b, c0b, rfl, l0b⟩ := hS0.form
  clear hM0 hS0
  obtain ⟨f2, c2, rfl, l2⟩ := a2.form
  by_cases g2 : (1048576 : Int) < X2.length
  · have g2' : decide ((1048576 : Int) < X2.length) = true := by simpa using g2
    go_enter Try.func12, Try.ntmps12
    go_wp2_with fail
    go_ret
    exact ⟨rfl, inferInstance⟩
  · have g2' : decide ((1048576 : Int) < X2.length) = false := by simpa using g2
    by_cases g0 : (1048576 : Int) - ((M0.length + sumLen M0 + (S0.length + sumLen S0)) : Nat) < 0
    · have gl0 := hid (show leftOf 1048576 (M0.length + sumLen M0 + (S0.length + sumLen S0)) = -1 by rw [leftOf, if_pos g0])
      go_enter Try.func12, Try.ntmps12
      go_wp2_with fail
      refine (szProblem_any (w0 := w) a0 (by omega) (by omega)).mono ?_
      rw [gl0.out]; rintro e wz ⟨rfl, hb⟩
      go_wp2_with fail
      go_ret
      exact ⟨rfl, Ext.trans inferInstance hb⟩
    · have gl0 := hid (show leftOf 1048576 (M0.length + sumLen M0 + (S0.length + sumLen S0)) = 1048576 - ((M0.length + sumLen M0 + (S0.length + sumLen S0)) : Nat) by rw [leftOf, if_neg g0])
      have gn0 : 0 ≤ (1048576 : Int) - ((M0.length + sumLen M0 + (S0.length + sumLen S0)) : Nat) := by omega
      have gm0 : (1048576 : Int) - ((M0.length + sumLen M0 + (S0.length + sumLen S0)) : Nat) ≤ 1048576 := by omega
      have hsm0 : (M0.length + sumLen M0 + (S0.length + sumLen S0)) ≤ 1048576 := by omega
      generalize hz0 : (1048576 : Int) - ((M0.length + sumLen M0 + (S0.length + sumLen S0)) : Nat) = z0 at *
      replace hz0 := hid hz0
      clear g0
      replace hsm0 := hid hsm0
      -- all sizes are right
      have heq := hid (show eqP M0 S0 M0 S0 = true from eqP_iff.2 ⟨rfl, rfl⟩)
      have heq2 := hid (show eqL X2 X2 = true from eqL_iff.2 rfl)
      go_enter Try.func12, Try.ntmps12
      go_wp2_with fail
      refine (szProblem_any (w0 := w) a0 (by omega) (by omega)).mono ?_
      rw [gl0.out]; rintro e w1 ⟨rfl, hb⟩
      have x0 : w1.cell? ⟨w.heap.size, 0, none⟩ = some (.slice f0a M0.length c0a) := hb.cell (by go_simp)
      have x1 : w1.cell? ⟨w.heap.size, 1, none⟩ = some (.slice f0b S0.length c0b) := hb.cell (by go_simp)
      have e1 : Ext w w1 := Ext.trans inferInstance hb
      clear hb
      replace a0 := a0.ext (w' := w1)
      replace a2 := a2.ext (w' := w1)
      go_wp2_with fail
      refine (toProblem_any (w0 := w1) a0).mono ?_
      rintro e w2 ⟨s0_d, s0_m, s0_vs, s0_d2, s0_m2, s0_vs2, rfl, s0_l, s0_l2, s0_own, hb⟩
      have s0 := s0_own.prob' s0_l s0_l2 a0
      have hbw2 : Ext w1 w2 := Ext.trans inferInstance hb
      clear hb
      replace x0 := hbw2.cell x0
      replace x1 := hbw2.cell x1
      replace a0 := a0.ext (w' := w2)
      replace a2 := a2.ext (w' := w2)
      replace e1 := Ext.trans e1 hbw2
      clear s0_own
      go_wp2_with fail
      refine (toIntS_any (w0 := w2) a2).mono ?_
      rintro e w3 ⟨s2_d, s2_m, rfl, s2_own, hb⟩
      have s2 := s2_own.reads' a2
      have hbw3 : Ext w2 w3 := Ext.trans inferInstance hb
      clear hb
      replace x0 := hbw3.cell x0
      replace x1 := hbw3.cell x1
      replace a0 := a0.ext (w' := w3)
      replace a2 := a2.ext (w' := w3)
      replace s0 := s0.ext (w' := w3)
      replace e1 := Ext.trans e1 hbw3
      clear s2_own
      go_wp2_with fail
      refine (specLC_any (w0 := w3) s0 a1 s2).mono ?_
      rintro e w4 ⟨rfl, hb⟩
      have hbw4 : Ext w3 w4 := Ext.trans inferInstance hb
      clear hb
      replace x0 := hbw4.cell x0
      replace x1 := hbw4.cell x1
      replace a0 := a0.ext (w' := w4)
      replace a2 := a2.ext (w' := w4)
      replace s0 := s0.ext (w' := w4)
      replace s2 := s2.ext (w' := w4)
      replace e1 := Ext.trans e1 hbw4
      go_wp2_with fail
      refine (toProblem_any (w0 := w4) a0).mono ?_
      rintro e w5 ⟨x_0_d, x_0_m, x_0_vs, x_0_d2, x_0_m2, x_0_vs2, rfl, x_0_l, x_0_l2, x_0_own, hb⟩
      have x_0 := x_0_own.prob' x_0_l x_0_l2 a0
      have hbw5 : Ext w4 w5 := Ext.trans inferInstance hb
      clear hb
      replace x0 := hbw5.cell x0
      replace x1 := hbw5.cell x1
      replace a0 := a0.ext (w' := w5)
      replace a2 := a2.ext (w' := w5)
      replace e1 := Ext.trans e1 hbw5
      clear x_0_own
      go_wp2_with fail
      refine (toIntS_any (w0 := w5) a2).mono ?_
      rintro e w6 ⟨x_2_d, x_2_m, rfl, x_2_own, hb⟩
      have x_2 := x_2_own.reads' a2
      have y0 : w6.cell? ⟨w5.heap.size, 0, none⟩ = some (.slice x_0_d M0.length x_0_m) := hb.cell (by go_simp)
      have y1 : w6.cell? ⟨w5.heap.size, 1, none⟩ = some (.slice x_0_d2 S0.length x_0_m2) := hb.cell (by go_simp)
      have hbw6 : Ext w5 w6 := Ext.trans inferInstance hb
      clear hb
      replace x0 := hbw6.cell x0
      replace x1 := hbw6.cell x1
      replace a0 := a0.ext (w' := w6)
      replace a2 := a2.ext (w' := w6)
      replace x_0 := x_0.ext (w' := w6)
      replace e1 := Ext.trans e1 hbw6
      clear x_2_own
      go_wp2_with fail
      refine (implLC_any (w0 := w6) x_0 a1 x_2).mono ?_
      rintro e w7 ⟨rfl, hb⟩
      have hbw7 : Ext w6 w7 := Ext.trans inferInstance hb
      clear hb
      replace x0 := hbw7.cell x0
      replace x1 := hbw7.cell x1
      replace y0 := hbw7.cell y0
      replace y1 := hbw7.cell y1
      replace a0 := a0.ext (w' := w7)
      replace a2 := a2.ext (w' := w7)
      replace x_0 := x_0.ext (w' := w7)
      replace x_2 := x_2.ext (w' := w7)
      replace e1 := Ext.trans e1 hbw7
      generalize hr0 : (lcR M0 S0 n1 X2) = r0 at *
      replace hr0 := hid hr0
      have hn0 : (r0 != r0) = false := by simp
      generalize hr1 : (startB M0 S0 n1 X2) = r1 at *
      replace hr1 := hid hr1
      have hn1 : (r1 != r1) = false := by simp
      go_upto_region 13 with fail
      go_cut [54] (fun q wx => q = .bool false ∧ Ext w7 wx)
      case first =>
        go_region_with (first
          | (go_at_call 20; refine (toProblem_any (w0 := w7) a0).mono ?_; rintro e wq ⟨qd, qm, qvs, qd2, qm2, qvs2, rfl, ql, ql2, qown, hq⟩; have pq := qown.prob' ql ql2 a0; have eq : Ext w7 wq := Ext.trans inferInstance hq; have y0' := eq.cell y0; have y1' := eq.cell y1)
          | (go_at_call 22; refine (eqProblem_any (w0 := wq) x_0.ext pq).mono ?_; rw [heq.out]; rintro e wq2 ⟨rfl, hq2⟩))
        all_goals
          go_wp2_with fail
          go_meet
          exact ⟨rfl, Ext.trans eq hq2⟩
      case rest =>
        obtain ⟨rfl, hbc⟩ := hcut
        have hb : Ext w7 wc := hbc
        clear hbc
        obtain ⟨w8, rfl⟩ : ∃ x : World, x = wc := ⟨_, rfl⟩
        have hbw8 : Ext w7 w8 := Ext.trans inferInstance hb
        clear hb
        replace x0 := hbw8.cell x0
        replace x1 := hbw8.cell x1
        replace y0 := hbw8.cell y0
        replace y1 := hbw8.cell y1
        replace a0 := a0.ext (w' := w8)
        replace a2 := a2.ext (w' := w8)
        replace x_0 := x_0.ext (w' := w8)
        replace x_2 := x_2.ext (w' := w8)
        replace e1 := Ext.trans e1 hbw8
        go_wp2_with fail
        refine (toIntS_any (w0 := w8) a2).mono ?_
        rintro e w9 ⟨q2_d, q2_m, rfl, q2_own, hb⟩
        have q2 := q2_own.reads' a2
        have hbw9 : Ext w8 w9 := Ext.trans inferInstance hb
        clear hb
        replace x0 := hbw9.cell x0
        replace x1 := hbw9.cell x1
        replace y0 := hbw9.cell y0
        replace y1 := hbw9.cell y1
        replace a0 := a0.ext (w' := w9)
        replace a2 := a2.ext (w' := w9)
        replace x_0 := x_0.ext (w' := w9)
        replace x_2 := x_2.ext (w' := w9)
        replace e1 := Ext.trans e1 hbw9
        clear q2_own
        go_wp2_with fail
        refine (eqIntS_any (w0 := w9) x_2 q2).mono ?_
        rw [heq2.out]
        rintro e w10 ⟨rfl, hdr⟩
        have hb := hdr.ext
        clear hdr
        have hbw10 : Ext w9 w10 := Ext.trans inferInstance hb
        clear hb
        replace x0 := hbw10.cell x0
        replace x1 := hbw10.cell x1
        replace y0 := hbw10.cell y0
        replace y1 := hbw10.cell y1
        replace a0 := a0.ext (w' := w10)
        replace a2 := a2.ext (w' := w10)
        replace x_0 := x_0.ext (w' := w10)
        replace x_2 := x_2.ext (w' := w10)
        replace q2 := q2.ext (w' := w10)
        replace e1 := Ext.trans e1 hbw10
        go_wp2_with fail
        go_ret
        exact ⟨rfl, e1⟩

end Go.Proofs.Ytbclgdajgaljkaa
