/- 'laws.FnExactCountAlgorithms' walked: it returns true for every input. Written by lawgen.py. -/
import Derived.Test.YtbclgdajgaljkaaCount
import Derived.Deep.RegionWith
import Derived.Deep.Cut
import Derived.Deep.DeepCutAuto
namespace Go.Proofs.Ytbclgdajgaljkaa
open Go.RowKit

set_option maxHeartbeats 1600000 in
set_option maxRecDepth 100000 in
theorem lawFnExactCountAlgorithms_any {v0 : Value} {M0 S0 : List (List Int)} {w : World} (a0 : IsProb w v0 M0 S0) :
    Calls Try.prog 4 #[v0] w fun e w' => e = .returned (.bool true) ∧ Ext w w' := by
  have b0 := a0
  obtain ⟨v0a, v0b, rfl, hM0, hS0⟩ := b0
  obtain ⟨f0a, c0a, rfl, l0a⟩ := hM0.form
  obtain ⟨f0b, c0b, rfl, l0b⟩ := hS0.form
  clear hM0 hS0
  by_cases g0 : (1048576 : Int) - ((M0.length + sumLen M0 + (S0.length + sumLen S0)) : Nat) < 0
  · have gl0 := hid (show leftOf 1048576 (M0.length + sumLen M0 + (S0.length + sumLen S0)) = -1 by rw [leftOf, if_pos g0])
    go_enter Try.func4, Try.ntmps4
    go_wp2_with fail
    refine (szProblem_any (w0 := w) a0 (by omega) (by omega)).mono ?_
    rw [gl0.out]; rintro e wz ⟨rfl, hb⟩
    go_wp2_with fail
    go_ret
    exact ⟨rfl, Ext.trans inferInstance hb⟩
  · have gl0 := hid (show leftOf 1048576 (M0.length + sumLen M0 + (S0.length + sumLen S0)) = 1048576 - ((M0.length + sumLen M0 + (S0.length + sumLen S0)) : Nat) by rw [leftOf, if_neg g0])
    have gn0 : 0 ≤ (1048576 : Int) - ((M0.length + sumLen M0 + (S0.length + sumLen S0)) : Nat) := by omega
    have gm0 : (1048576 : Int) - ((M0.length + sumLen M0 + (S0.length + sumLen S0)) : Nat) ≤ 1048576 := by omega
    have hsm0 : (M0.length + sumLen M0 + (S0.length + sumLen S0)) ≤ 1048576 := by omega
    generalize hz0 : (1048576 : Int) - ((M0.length + sumLen M0 + (S0.length + sumLen S0)) : Nat) = z0 at *
    replace hz0 := hid hz0
    clear g0
    replace hsm0 := hid hsm0
    -- all sizes are right
    have heq := hid (show eqP M0 S0 M0 S0 = true from eqP_iff.2 ⟨rfl, rfl⟩)
    go_enter Try.func4, Try.ntmps4
    go_wp2_with fail
    refine (szProblem_any (w0 := w) a0 (by omega) (by omega)).mono ?_
    rw [gl0.out]; rintro e w1 ⟨rfl, hb⟩
    have x0 : w1.cell? ⟨w.heap.size, 0, none⟩ = some (.slice f0a M0.length c0a) := hb.cell (by go_simp)
    have x1 : w1.cell? ⟨w.heap.size, 1, none⟩ = some (.slice f0b S0.length c0b) := hb.cell (by go_simp)
    have e1 : Ext w w1 := Ext.trans inferInstance hb
    clear hb
    replace a0 := a0.ext (w' := w1)
    go_wp2_with fail
    refine (toProblem_any (w0 := w1) a0).mono ?_
    rintro e w2 ⟨s0_d, s0_m, s0_vs, s0_d2, s0_m2, s0_vs2, rfl, s0_l, s0_l2, s0_own, hb⟩
    have s0 := s0_own.prob' s0_l s0_l2 a0
    have hbw2 : Ext w1 w2 := Ext.trans inferInstance hb
    clear hb
    replace x0 := hbw2.cell x0
    replace x1 := hbw2.cell x1
    replace a0 := a0.ext (w' := w2)
    replace e1 := Ext.trans e1 hbw2
    clear s0_own
    go_wp2_with fail
    refine (specCount_any (w0 := w2) s0).mono ?_
    rintro e w3 ⟨rfl, hb⟩
    have hbw3 : Ext w2 w3 := Ext.trans inferInstance hb
    clear hb
    replace x0 := hbw3.cell x0
    replace x1 := hbw3.cell x1
    replace a0 := a0.ext (w' := w3)
    replace s0 := s0.ext (w' := w3)
    replace e1 := Ext.trans e1 hbw3
    go_wp2_with fail
    refine (toProblem_any (w0 := w3) a0).mono ?_
    rintro e w4 ⟨x_0_d, x_0_m, x_0_vs, x_0_d2, x_0_m2, x_0_vs2, rfl, x_0_l, x_0_l2, x_0_own, hb⟩
    have x_0 := x_0_own.prob' x_0_l x_0_l2 a0
    have hbw4 : Ext w3 w4 := Ext.trans inferInstance hb
    clear hb
    replace x0 := hbw4.cell x0
    replace x1 := hbw4.cell x1
    replace a0 := a0.ext (w' := w4)
    replace e1 := Ext.trans e1 hbw4
    clear x_0_own
    go_wp2_with fail
    refine (implCount_any (w0 := w4) x_0).mono ?_
    rintro e w5 ⟨rfl, hb⟩
    have y0 : w5.cell? ⟨w4.heap.size, 0, none⟩ = some (.slice x_0_d M0.length x_0_m) := hb.cell (by go_simp)
    have y1 : w5.cell? ⟨w4.heap.size, 1, none⟩ = some (.slice x_0_d2 S0.length x_0_m2) := hb.cell (by go_simp)
    have hbw5 : Ext w4 w5 := Ext.trans inferInstance hb
    clear hb
    replace x0 := hbw5.cell x0
    replace x1 := hbw5.cell x1
    replace a0 := a0.ext (w' := w5)
    replace x_0 := x_0.ext (w' := w5)
    replace e1 := Ext.trans e1 hbw5
    generalize hr0 : (countR M0 S0) = r0 at *
    replace hr0 := hid hr0
    have hn0 : (r0 != r0) = false := by simp
    generalize hr1 : (probB M0 S0) = r1 at *
    replace hr1 := hid hr1
    have hn1 : (r1 != r1) = false := by simp
    go_upto_region 10 with fail
    go_cut [39] (fun q wx => q = .bool false ∧ Ext w5 wx)
    case first =>
      go_region_with (first
        | (go_at_call 20; refine (toProblem_any (w0 := w5) a0).mono ?_; rintro e wq ⟨qd, qm, qvs, qd2, qm2, qvs2, rfl, ql, ql2, qown, hq⟩; have pq := qown.prob' ql ql2 a0; have eq : Ext w5 wq := Ext.trans inferInstance hq; have y0' := eq.cell y0; have y1' := eq.cell y1)
        | (go_at_call 22; refine (eqProblem_any (w0 := wq) x_0.ext pq).mono ?_; rw [heq.out]; rintro e wq2 ⟨rfl, hq2⟩))
      all_goals
        go_wp2_with fail
        go_meet
        exact ⟨rfl, Ext.trans eq hq2⟩
    case rest =>
      obtain ⟨rfl, hbc⟩ := hcut
      have hb : Ext w5 wc := hbc
      clear hbc
      obtain ⟨w6, rfl⟩ : ∃ x : World, x = wc := ⟨_, rfl⟩
      have hbw6 : Ext w5 w6 := Ext.trans inferInstance hb
      clear hb
      replace x0 := hbw6.cell x0
      replace x1 := hbw6.cell x1
      replace y0 := hbw6.cell y0
      replace y1 := hbw6.cell y1
      replace a0 := a0.ext (w' := w6)
      replace x_0 := x_0.ext (w' := w6)
      replace e1 := Ext.trans e1 hbw6
      go_wp2_with fail
      go_ret
      exact ⟨rfl, e1⟩

end Go.Proofs.Ytbclgdajgaljkaa
