/- 'laws.FnExactFirstBroken' walked: it returns true for every input. Written by lawgen.py. -/
import Derived.Test.YtobfehekjapnhaaPotZ
import Derived.Test.YtobfehekjapnhaaLawFrac
import Derived.Test.YtobfehekjapnhaaLawFlat
import Derived.Test.YtobfehekjapnhaaReads
import Derived.Deep.RegionWith
import Derived.Deep.Cut
import Derived.Deep.DeepCutAuto
namespace Go.Proofs.Ytobfehekjapnhaa
open Go.RowKit

set_option maxHeartbeats 1600000 in
set_option maxRecDepth 100000 in
theorem lawFnExactFirstBroken_any {v0 : Value} {M0 S0 : List (List Int)} {v1 : Value} {X1 : List (List Int)} {n2 : Int} {n3 d3 : Int} {v4 : Value} {X4 : List Int} {w : World} (a0 : IsProb w v0 M0 S0) (a1 : IsRows w v1 X1) (a2 : I64 n2) (_a3 : I64 n3) (_b3 : I64 d3) (a4 : IsInts w v4 X4) :
    Calls Try.prog 8 #[v0, v1, .int .i64 n2, .agg #[.int .i64 n3, .int .i64 d3], v4] w fun e w' => e = .returned (.bool true) ∧ Ext w w' := by
  have b0 := a0
  obtain ⟨v0a, v0b, rfl, hM0, hS0⟩ := b0
  obtain ⟨f0a, c0a, rfl, l0a⟩ := hM0.form
  obtain ⟨f0b, c0b, rfl, l0b⟩ := hS0.form
  clear hM0 hS0
  obtain ⟨f1, c1, rfl, l1⟩ := a1.form
  obtain ⟨f4, c4, rfl, l4⟩ := a4.form
  by_cases g4 : (1048576 : Int) < X4.length
  · have g4' : decide ((1048576 : Int) < X4.length) = true := by simpa using g4
    go_enter Try.func8, Try.ntmps8
    go_wp2_with fail
    go_ret
    exact ⟨rfl, inferInstance⟩
  · have g4' : decide ((1048576 : Int) < X4.length) = false := by simpa using g4
    by_cases g0 : (1048576 : Int) - ((M0.length + sumLen M0 + (S0.length + sumLen S0)) : Nat) < 0
    · have gl0 := hid (show leftOf 1048576 (M0.length + sumLen M0 + (S0.length + sumLen S0)) = -1 by rw [leftOf, if_pos g0])
      go_enter Try.func8, Try.ntmps8
      go_wp2_with fail
      refine (szProblem_any (w0 := w) a0 (by omega) (by omega)).mono ?_
      rw [gl0.out]; rintro e wz ⟨rfl, hb⟩
      go_wp2_with fail
      go_ret
      exact ⟨rfl, Ext.trans inferInstance hb⟩
    · have gl0 := hid (show leftOf 1048576 (M0.length + sumLen M0 + (S0.length + sumLen S0)) = 1048576 - ((M0.length + sumLen M0 + (S0.length + sumLen S0)) : Nat) by rw [leftOf, if_neg g0])
      have gn0 : 0 ≤ (1048576 : Int) - ((M0.length + sumLen M0 + (S0.length + sumLen S0)) : Nat) := by omega
      have gm0 : (1048576 : Int) - ((M0.length + sumLen M0 + (S0.length + sumLen S0)) : Nat) ≤ 1048576 := by omega
      have hsm0 : (M0.length + sumLen M0 + (S0.length + sumLen S0)) ≤ 1048576 := by omega
      generalize hz0 : (1048576 : Int) - ((M0.length + sumLen M0 + (S0.length + sumLen S0)) : Nat) = z0 at *
      replace hz0 := hid hz0
      clear g0
      replace hsm0 := hid hsm0
      by_cases g1 : (z0 : Int) - ((X1.length + sumLen X1) : Nat) < 0
      · have gl1 := hid (show leftOf z0 (X1.length + sumLen X1) = -1 by rw [leftOf, if_pos g1])
        go_enter Try.func8, Try.ntmps8
        go_wp2_with fail
        refine (szProblem_any (w0 := w) a0 (by omega) (by omega)).mono ?_
        rw [gl0.out]; rintro e w1 ⟨rfl, hb⟩
        have x0 : w1.cell? ⟨w.heap.size, 0, none⟩ = some (.slice f0a M0.length c0a) := hb.cell (by go_simp)
        have x1 : w1.cell? ⟨w.heap.size, 1, none⟩ = some (.slice f0b S0.length c0b) := hb.cell (by go_simp)
        have fx0 : w1.cell? ⟨w.heap.size + 1, 0, none⟩ = some (.int .i64 n3) := hb.cell (by go_simp)
        have fx1 : w1.cell? ⟨w.heap.size + 1, 1, none⟩ = some (.int .i64 d3) := hb.cell (by go_simp)
        have e1 : Ext w w1 := Ext.trans inferInstance hb
        clear hb
        go_wp2_with fail
        refine (szIntSS_any (w0 := w) a1 (by omega) (by omega)).mono ?_
        rw [gl1.out]; rintro e wz ⟨rfl, hwz⟩; rw [hwz]; clear hwz
        go_wp2_with fail
        go_ret
        exact ⟨rfl, e1⟩
      · have gl1 := hid (show leftOf z0 (X1.length + sumLen X1) = z0 - ((X1.length + sumLen X1) : Nat) by rw [leftOf, if_neg g1])
        have gn1 : 0 ≤ (z0 : Int) - ((X1.length + sumLen X1) : Nat) := by omega
        have gm1 : (z0 : Int) - ((X1.length + sumLen X1) : Nat) ≤ 1048576 := by omega
        have hsm1 : (X1.length + sumLen X1) ≤ 1048576 := by omega
        generalize hz1 : (z0 : Int) - ((X1.length + sumLen X1) : Nat) = z1 at *
        replace hz1 := hid hz1
        clear g1
        replace hsm1 := hid hsm1
        -- all sizes are right
        have heq := hid (show eqP M0 S0 M0 S0 = true from eqP_iff.2 ⟨rfl, rfl⟩)
        have heq1 := hid (show eqR X1 X1 = true from eqR_iff.2 rfl)
        have heq4 := hid (show eqL X4 X4 = true from eqL_iff.2 rfl)
        go_enter Try.func8, Try.ntmps8
        go_wp2_with fail
        refine (szProblem_any (w0 := w) a0 (by omega) (by omega)).mono ?_
        rw [gl0.out]; rintro e w1 ⟨rfl, hb⟩
        have x0 : w1.cell? ⟨w.heap.size, 0, none⟩ = some (.slice f0a M0.length c0a) := hb.cell (by go_simp)
        have x1 : w1.cell? ⟨w.heap.size, 1, none⟩ = some (.slice f0b S0.length c0b) := hb.cell (by go_simp)
        have fx0 : w1.cell? ⟨w.heap.size + 1, 0, none⟩ = some (.int .i64 n3) := hb.cell (by go_simp)
        have fx1 : w1.cell? ⟨w.heap.size + 1, 1, none⟩ = some (.int .i64 d3) := hb.cell (by go_simp)
        have e1 : Ext w w1 := Ext.trans inferInstance hb
        clear hb
        go_wp2_with fail
        refine (szIntSS_any (w0 := w) a1 (by omega) (by omega)).mono ?_
        rw [gl1.out]; rintro e wz ⟨rfl, hwz⟩; rw [hwz]; clear hwz
        replace a0 := a0.ext (w' := w1)
        replace a1 := a1.ext (w' := w1)
        replace a4 := a4.ext (w' := w1)
        go_upto_region 10 with fail
        go_cut [12, 13] (fun p r wx => ∃ bb : Nat, p = .pointer (some ⟨bb, 0, none⟩) ∧ r = .bool (fbB M0 S0 X1 n2 n3 d3 X4) ∧ wx.cell? ⟨bb, 0, none⟩ = some (.int .i64 (fbI M0 S0 X1 n2 n3 d3 X4)) ∧ wx.cell? ⟨bb, 1, none⟩ = some (.int .i64 (fbJ M0 S0 X1 n2 n3 d3 X4)) ∧ Ext w1 wx)
        case first =>
          have ed : Ext w1 (w1).drew := inferInstance
          refine wp_region_held_drew (S := fun w' => Ext w1 w' ∧ w'.cell? ⟨w.heap.size, 0, none⟩ = some (.slice f0a M0.length c0a) ∧ w'.cell? ⟨w.heap.size, 1, none⟩ = some (.slice f0b S0.length c0b) ∧ w'.cell? ⟨w.heap.size + 1, 0, none⟩ = some (.int .i64 n3) ∧ w'.cell? ⟨w.heap.size + 1, 1, none⟩ = some (.int .i64 d3)) (by kernel_rfl) ⟨ed, ed.cell x0, ed.cell x1, ed.cell fx0, ed.cell fx1⟩ (fun hHeld0 => ?_)
          refine wpAnyH_take (i := 0) (v := .agg #[.slice f0a M0.length c0a, .slice f0b S0.length c0b]) rfl (by kernel_rfl) (by kernel_rfl) (by kernel_rfl) (fun _ _ _ h => h) (Or.inl ⟨by rfl, by intro wx hx; obtain ⟨_, _, _, _, _⟩ := hx; go_simp⟩) (by assumption) ?_
          try simp only [List.getElem_toArray, List.getElem_cons_zero, Act.put, List.setIfInBounds_toArray, List.set_cons_zero, List.set_cons_succ]
          refine wpAnyH_take (i := 2) (v := .slice f1 X1.length c1) rfl (by kernel_rfl) (by kernel_rfl) (by kernel_rfl) (fun _ _ _ h => h) (Or.inl ⟨by rfl, by intro wx hx; go_simp⟩) (by assumption) ?_
          try simp only [List.getElem_toArray, List.getElem_cons_succ, List.getElem_cons_zero, Act.put, List.setIfInBounds_toArray, List.set_cons_zero, List.set_cons_succ]
          refine wpAnyH_take (i := 4) (v := .int .i64 n2) rfl (by kernel_rfl) (by kernel_rfl) (by kernel_rfl) (fun _ _ _ h => h) (Or.inl ⟨by rfl, by intro wx hx; go_simp⟩) (by assumption) ?_
          try simp only [List.getElem_toArray, List.getElem_cons_succ, List.getElem_cons_zero, Act.put, List.setIfInBounds_toArray, List.set_cons_zero, List.set_cons_succ]
          refine wpAnyH_take (i := 5) (v := .agg #[.int .i64 n3, .int .i64 d3]) rfl (by kernel_rfl) (by kernel_rfl) (by kernel_rfl) (fun _ _ _ h => h) (Or.inl ⟨by rfl, by intro wx hx; obtain ⟨_, _, _, _, _⟩ := hx; go_simp⟩) (by assumption) ?_
          try simp only [List.getElem_toArray, List.getElem_cons_succ, List.getElem_cons_zero, Act.put, List.setIfInBounds_toArray, List.set_cons_zero, List.set_cons_succ]
          refine wpAnyH_take (i := 7) (v := .slice f4 X4.length c4) rfl (by kernel_rfl) (by kernel_rfl) (by kernel_rfl) (fun _ _ _ h => h) (Or.inl ⟨by rfl, by intro wx hx; go_simp⟩) (by assumption) ?_
          try simp only [List.getElem_toArray, List.getElem_cons_succ, List.getElem_cons_zero, Act.put, List.setIfInBounds_toArray, List.set_cons_zero, List.set_cons_succ]
          refine wpAnyH_ready (rs := [1, 13]) (by kernel_rfl) (by simp) ?_
          refine AllReadyH.cons rfl (fun K hK => ?_) (AllReadyH.cons rfl (fun K hK => ?_) AllReadyH.nil)
          · go_simp
            go_at_call 12
            refine (toProblem_any (w0 := w1) a0).mono ?_
            rintro e us1 ⟨s0_d, s0_m, s0_vs, s0_d2, s0_m2, s0_vs2, rfl, s0_l, s0_l2, s0_own, hus1⟩
            have s0 := s0_own.prob' s0_l s0_l2 a0
            clear s0_own
            have hx0 : Ext w1 us1 := Ext.trans inferInstance hus1
            go_wp2_with fail
            have er1 : Ext w1 us1 := Ext.trans ed hus1
            refine hK.out _ _ ⟨er1, er1.cell x0, er1.cell x1, er1.cell fx0, er1.cell fx1⟩ (fun _ => ?_)
            clear hK K
            try simp only [List.getElem_toArray, List.getElem_cons_succ, List.getElem_cons_zero, Act.put, List.setIfInBounds_toArray, List.set_cons_zero, List.set_cons_succ]
            refine wpAnyH_ready (rs := [3, 13]) (by kernel_rfl) (by simp) ?_
            refine AllReadyH.cons rfl (fun K hK => ?_) (AllReadyH.cons rfl (fun K hK => ?_) AllReadyH.nil)
            · go_simp
              go_at_call 22
              refine (toIntSS_any (w0 := w1) a1).mono ?_
              rintro e us2 ⟨s1_d, s1_m, s1_vs, rfl, s1_l, s1_own, hus2⟩
              have s1 := s1_own.readsAll' s1_l a1
              clear s1_own
              have hx1 : Ext us1 us2 := Ext.trans inferInstance hus2
              replace s0 := s0.ext (w' := us2)
              go_wp2_with fail
              have er2 : Ext w1 us2 := Ext.trans er1 hus2
              refine hK.out _ _ ⟨er2, er2.cell x0, er2.cell x1, er2.cell fx0, er2.cell fx1⟩ (fun _ => ?_)
              clear hK K
              try simp only [List.getElem_toArray, List.getElem_cons_succ, List.getElem_cons_zero, Act.put, List.setIfInBounds_toArray, List.set_cons_zero, List.set_cons_succ]
              refine wpAnyH_ready (rs := [6, 13]) (by kernel_rfl) (by simp) ?_
              refine AllReadyH.cons rfl (fun K hK => ?_) (AllReadyH.cons rfl (fun K hK => ?_) AllReadyH.nil)
              · go_simp
                go_at_call 35
                refine (toFrac_any _).mono ?_
                rintro e us3 ⟨rfl, hus3⟩
                have hx2 : Ext us2 us3 := Ext.trans inferInstance hus3
                replace s0 := s0.ext (w' := us3)
                replace s1 := s1.ext (w' := us3)
                go_wp2_with fail
                have er3 : Ext w1 us3 := Ext.trans er2 hus3
                refine hK.out _ _ ⟨er3, er3.cell x0, er3.cell x1, er3.cell fx0, er3.cell fx1⟩ (fun _ => ?_)
                clear hK K
                try simp only [List.getElem_toArray, List.getElem_cons_succ, List.getElem_cons_zero, Act.put, List.setIfInBounds_toArray, List.set_cons_zero, List.set_cons_succ]
                refine wpAnyH_ready (rs := [8, 13]) (by kernel_rfl) (by simp) ?_
                refine AllReadyH.cons rfl (fun K hK => ?_) (AllReadyH.cons rfl (fun K hK => ?_) AllReadyH.nil)
                · go_simp
                  go_at_call 13
                  refine (toIntS_any (w0 := w1) a4).mono ?_
                  rintro e us4 ⟨s4_d, s4_m, rfl, s4_own, hus4⟩
                  have s4 := s4_own.reads' a4
                  clear s4_own
                  have hx3 : Ext us3 us4 := Ext.trans inferInstance hus4
                  replace s0 := s0.ext (w' := us4)
                  replace s1 := s1.ext (w' := us4)
                  go_wp2_with fail
                  have er4 : Ext w1 us4 := Ext.trans er3 hus4
                  refine hK.out _ _ ⟨er4, er4.cell x0, er4.cell x1, er4.cell fx0, er4.cell fx1⟩ (fun _ => ?_)
                  clear hK K
                  try simp only [List.getElem_toArray, List.getElem_cons_succ, List.getElem_cons_zero, Act.put, List.setIfInBounds_toArray, List.set_cons_zero, List.set_cons_succ]
                  refine wpAnyH_ready (rs := [9, 13]) (by kernel_rfl) (by simp) ?_
                  refine AllReadyH.cons rfl (fun K hK => ?_) (AllReadyH.cons rfl (fun K hK => ?_) AllReadyH.nil)
                  · go_simp
                    go_at_call 37
                    refine (specFB_any (w0 := us4) s0 s1 a2 s4).mono ?_
                    rintro e us5 ⟨rfl, hus5⟩
                    go_wp2_with fail
                    have er5 : Ext w1 us5 := Ext.trans er4 hus5
                    refine hK.out _ _ ⟨er5, er5.cell x0, er5.cell x1, er5.cell fx0, er5.cell fx1⟩ (fun _ => ?_)
                    clear hK K
                    try simp only [List.getElem_toArray, List.getElem_cons_succ, List.getElem_cons_zero, Act.put, List.setIfInBounds_toArray, List.set_cons_zero, List.set_cons_succ]
                    refine wpAnyH_take (i := 10) (v := .tuple #[.agg #[.int .i64 (fbI M0 S0 X1 n2 n3 d3 X4), .int .i64 (fbJ M0 S0 X1 n2 n3 d3 X4)], .bool (fbB M0 S0 X1 n2 n3 d3 X4)]) rfl (by kernel_rfl) (by kernel_rfl) (by kernel_rfl) (fun _ _ _ h => h) (Or.inl ⟨by rfl, by intro wx hx; go_simp⟩) (by assumption) ?_
                    try simp only [List.getElem_toArray, List.getElem_cons_succ, List.getElem_cons_zero, Act.put, List.setIfInBounds_toArray, List.set_cons_zero, List.set_cons_succ]
                    refine wpAnyH_take (i := 11) (v := .agg #[.int .i64 (fbI M0 S0 X1 n2 n3 d3 X4), .int .i64 (fbJ M0 S0 X1 n2 n3 d3 X4)]) rfl (by kernel_rfl) (by kernel_rfl) (by kernel_rfl) (fun _ _ _ h => h) (Or.inl ⟨by rfl, by intro wx hx; go_simp⟩) (by assumption) ?_
                    try simp only [List.getElem_toArray, List.getElem_cons_succ, List.getElem_cons_zero, Act.put, List.setIfInBounds_toArray, List.set_cons_zero, List.set_cons_succ]
                    refine wpAnyH_take (i := 12) (v := .bool (fbB M0 S0 X1 n2 n3 d3 X4)) rfl (by kernel_rfl) (by kernel_rfl) (by kernel_rfl) (fun _ _ _ h => h) (Or.inl ⟨by rfl, by intro wx hx; go_simp⟩) (by assumption) ?_
                    try simp only [List.getElem_toArray, List.getElem_cons_succ, List.getElem_cons_zero, Act.put, List.setIfInBounds_toArray, List.set_cons_zero, List.set_cons_succ]
                    have ea : Ext w1 (us5.alloc (.cells #[.int .i64 0, .int .i64 0] 59)) := Ext.trans er5 inferInstance
                    refine wpAnyH_ready (rs := [13]) (by kernel_rfl) (by simp) ?_
                    refine AllReadyH.cons rfl (fun K hK => ?_) AllReadyH.nil
                    go_simp
                    refine hK.out _ _ ⟨ea, ea.cell x0, ea.cell x1, ea.cell fx0, ea.cell fx1⟩ (fun _ => ?_)
                    clear hK K
                    try simp only [List.getElem_toArray, List.getElem_cons_succ, List.getElem_cons_zero, Act.put, List.setIfInBounds_toArray, List.set_cons_zero, List.set_cons_succ]
                    have eb : Ext w1 (us5.alloc (.cells #[.int .i64 (fbI M0 S0 X1 n2 n3 d3 X4), .int .i64 (fbJ M0 S0 X1 n2 n3 d3 X4)] 59)) := Ext.trans er5 inferInstance
                    refine wpAnyH_ready (rs := [14]) (by kernel_rfl) (by simp) ?_
                    refine AllReadyH.cons rfl (fun K hK => ?_) AllReadyH.nil
                    go_simp
                    refine hK.out _ _ ⟨eb, eb.cell x0, eb.cell x1, eb.cell fx0, eb.cell fx1⟩ (fun _ => ?_)
                    clear hK K
                    try simp only [List.getElem_toArray, List.getElem_cons_succ, List.getElem_cons_zero, Act.put, List.setIfInBounds_toArray, List.set_cons_zero, List.set_cons_succ]
                    refine wpAnyH_take (i := 15) (v := .bool (fbB M0 S0 X1 n2 n3 d3 X4)) rfl (by kernel_rfl) (by kernel_rfl) (by kernel_rfl) (fun _ _ _ h => h) (Or.inl ⟨by rfl, by intro wx hx; go_simp⟩) (by assumption) ?_
                    try simp only [List.getElem_toArray, List.getElem_cons_succ, List.getElem_cons_zero, Act.put, List.setIfInBounds_toArray, List.set_cons_zero, List.set_cons_succ]
                    refine wpAnyH_done (by kernel_rfl) ?_ _
                    go_wp2_with fail
                    go_meet
                    exact ⟨us5.heap.size, rfl, rfl, by go_simp, by go_simp, eb⟩
                  · go_simp
                    have ea : Ext w1 (us4.alloc (.cells #[.int .i64 0, .int .i64 0] 59)) := Ext.trans er4 inferInstance
                    have hBA : w1.heap.size ≤ us4.heap.size := er4.size
                    have za0 : ((us4.alloc (.cells #[.int .i64 0, .int .i64 0] 59))).cell? ⟨us4.heap.size, 0, none⟩ = some (.int .i64 0) := by go_simp
                    have ff0 : ((us4.alloc (.cells #[.int .i64 0, .int .i64 0] 59))).frozen? ⟨us4.heap.size, 0, none⟩ = false := by go_simp
                    have za1 : ((us4.alloc (.cells #[.int .i64 0, .int .i64 0] 59))).cell? ⟨us4.heap.size, 1, none⟩ = some (.int .i64 0) := by go_simp
                    have ff1 : ((us4.alloc (.cells #[.int .i64 0, .int .i64 0] 59))).frozen? ⟨us4.heap.size, 1, none⟩ = false := by go_simp
                    refine hK.out _ _ ⟨ea, ea.cell x0, ea.cell x1, ea.cell fx0, ea.cell fx1⟩ (fun _ => ?_)
                    clear hK K
                    try simp only [List.getElem_toArray, List.getElem_cons_succ, List.getElem_cons_zero, Act.put, List.setIfInBounds_toArray, List.set_cons_zero, List.set_cons_succ]
                    refine wpAnyH_ready (rs := [9]) (by kernel_rfl) (by simp) ?_
                    refine AllReadyH.cons rfl (fun K hK => ?_) AllReadyH.nil
                    go_simp
                    go_at_call 37
                    refine (specFB_any (w0 := us4) s0 s1 a2 s4).mono ?_
                    rintro e us5 ⟨rfl, hus5⟩
                    go_wp2_with fail
                    have er5 : Ext w1 us5 := Ext.trans ea hus5
                    replace ff0 := frozen_on hus5 za0 ff0
                    replace ff1 := frozen_on hus5 za1 ff1
                    replace za0 := hus5.cell za0
                    replace za1 := hus5.cell za1
                    refine hK.out _ _ ⟨er5, er5.cell x0, er5.cell x1, er5.cell fx0, er5.cell fx1⟩ (fun _ => ?_)
                    clear hK K
                    try simp only [List.getElem_toArray, List.getElem_cons_succ, List.getElem_cons_zero, Act.put, List.setIfInBounds_toArray, List.set_cons_zero, List.set_cons_succ]
                    refine wpAnyH_take (i := 10) (v := .tuple #[.agg #[.int .i64 (fbI M0 S0 X1 n2 n3 d3 X4), .int .i64 (fbJ M0 S0 X1 n2 n3 d3 X4)], .bool (fbB M0 S0 X1 n2 n3 d3 X4)]) rfl (by kernel_rfl) (by kernel_rfl) (by kernel_rfl) (fun _ _ _ h => h) (Or.inl ⟨by rfl, by intro wx hx; go_simp⟩) (by assumption) ?_
                    try simp only [List.getElem_toArray, List.getElem_cons_succ, List.getElem_cons_zero, Act.put, List.setIfInBounds_toArray, List.set_cons_zero, List.set_cons_succ]
                    refine wpAnyH_take (i := 11) (v := .agg #[.int .i64 (fbI M0 S0 X1 n2 n3 d3 X4), .int .i64 (fbJ M0 S0 X1 n2 n3 d3 X4)]) rfl (by kernel_rfl) (by kernel_rfl) (by kernel_rfl) (fun _ _ _ h => h) (Or.inl ⟨by rfl, by intro wx hx; go_simp⟩) (by assumption) ?_
                    try simp only [List.getElem_toArray, List.getElem_cons_succ, List.getElem_cons_zero, Act.put, List.setIfInBounds_toArray, List.set_cons_zero, List.set_cons_succ]
                    refine wpAnyH_take (i := 12) (v := .bool (fbB M0 S0 X1 n2 n3 d3 X4)) rfl (by kernel_rfl) (by kernel_rfl) (by kernel_rfl) (fun _ _ _ h => h) (Or.inl ⟨by rfl, by intro wx hx; go_simp⟩) (by assumption) ?_
                    try simp only [List.getElem_toArray, List.getElem_cons_succ, List.getElem_cons_zero, Act.put, List.setIfInBounds_toArray, List.set_cons_zero, List.set_cons_succ]
                    refine wpAnyH_ready (rs := [14]) (by kernel_rfl) (by simp) ?_
                    refine AllReadyH.cons rfl (fun K hK => ?_) AllReadyH.nil
                    go_simp
                    have es := @Ext.set _ _ (@Ext.set _ _ er5 ⟨us4.heap.size, 0, none⟩ hBA (.int .i64 (fbI M0 S0 X1 n2 n3 d3 X4))) ⟨us4.heap.size, 1, none⟩ hBA (.int .i64 (fbJ M0 S0 X1 n2 n3 d3 X4))
                    refine hK.out _ _ ⟨es, es.cell x0, es.cell x1, es.cell fx0, es.cell fx1⟩ (fun _ => ?_)
                    clear hK K
                    try simp only [List.getElem_toArray, List.getElem_cons_succ, List.getElem_cons_zero, Act.put, List.setIfInBounds_toArray, List.set_cons_zero, List.set_cons_succ]
                    refine wpAnyH_take (i := 15) (v := .bool (fbB M0 S0 X1 n2 n3 d3 X4)) rfl (by kernel_rfl) (by kernel_rfl) (by kernel_rfl) (fun _ _ _ h => h) (Or.inl ⟨by rfl, by intro wx hx; go_simp⟩) (by assumption) ?_
                    try simp only [List.getElem_toArray, List.getElem_cons_succ, List.getElem_cons_zero, Act.put, List.setIfInBounds_toArray, List.set_cons_zero, List.set_cons_succ]
                    refine wpAnyH_done (by kernel_rfl) ?_ _
                    go_wp2_with fail
                    go_meet
                    exact ⟨us4.heap.size, rfl, rfl, by simp [go_sem, za0], by simp [go_sem, za1], es⟩
                · go_simp
                  have ea : Ext w1 (us3.alloc (.cells #[.int .i64 0, .int .i64 0] 59)) := Ext.trans er3 inferInstance
                  have hBA : w1.heap.size ≤ us3.heap.size := er3.size
                  have za0 : ((us3.alloc (.cells #[.int .i64 0, .int .i64 0] 59))).cell? ⟨us3.heap.size, 0, none⟩ = some (.int .i64 0) := by go_simp
                  have ff0 : ((us3.alloc (.cells #[.int .i64 0, .int .i64 0] 59))).frozen? ⟨us3.heap.size, 0, none⟩ = false := by go_simp
                  have za1 : ((us3.alloc (.cells #[.int .i64 0, .int .i64 0] 59))).cell? ⟨us3.heap.size, 1, none⟩ = some (.int .i64 0) := by go_simp
                  have ff1 : ((us3.alloc (.cells #[.int .i64 0, .int .i64 0] 59))).frozen? ⟨us3.heap.size, 1, none⟩ = false := by go_simp
                  refine hK.out _ _ ⟨ea, ea.cell x0, ea.cell x1, ea.cell fx0, ea.cell fx1⟩ (fun _ => ?_)
                  clear hK K
                  try simp only [List.getElem_toArray, List.getElem_cons_succ, List.getElem_cons_zero, Act.put, List.setIfInBounds_toArray, List.set_cons_zero, List.set_cons_succ]
                  refine wpAnyH_ready (rs := [8]) (by kernel_rfl) (by simp) ?_
                  refine AllReadyH.cons rfl (fun K hK => ?_) AllReadyH.nil
                  go_simp
                  go_at_call 13
                  refine (toIntS_any (w0 := w1) a4).mono ?_
                  rintro e us4 ⟨s4_d, s4_m, rfl, s4_own, hus4⟩
                  have s4 := s4_own.reads' a4
                  clear s4_own
                  have hx3 : Ext us3 us4 := Ext.trans inferInstance hus4
                  replace s0 := s0.ext (w' := us4)
                  replace s1 := s1.ext (w' := us4)
                  go_wp2_with fail
                  have er4 : Ext w1 us4 := Ext.trans ea hus4
                  replace ff0 := frozen_on hus4 za0 ff0
                  replace ff1 := frozen_on hus4 za1 ff1
                  replace za0 := hus4.cell za0
                  replace za1 := hus4.cell za1
                  refine hK.out _ _ ⟨er4, er4.cell x0, er4.cell x1, er4.cell fx0, er4.cell fx1⟩ (fun _ => ?_)
                  clear hK K
                  try simp only [List.getElem_toArray, List.getElem_cons_succ, List.getElem_cons_zero, Act.put, List.setIfInBounds_toArray, List.set_cons_zero, List.set_cons_succ]
                  refine wpAnyH_ready (rs := [9]) (by kernel_rfl) (by simp) ?_
                  refine AllReadyH.cons rfl (fun K hK => ?_) AllReadyH.nil
                  go_simp
                  go_at_call 37
                  refine (specFB_any (w0 := us4) s0 s1 a2 s4).mono ?_
                  rintro e us5 ⟨rfl, hus5⟩
                  go_wp2_with fail
                  have er5 : Ext w1 us5 := Ext.trans er4 hus5
                  replace ff0 := frozen_on hus5 za0 ff0
                  replace ff1 := frozen_on hus5 za1 ff1
                  replace za0 := hus5.cell za0
                  replace za1 := hus5.cell za1
                  refine hK.out _ _ ⟨er5, er5.cell x0, er5.cell x1, er5.cell fx0, er5.cell fx1⟩ (fun _ => ?_)
                  clear hK K
                  try simp only [List.getElem_toArray, List.getElem_cons_succ, List.getElem_cons_zero, Act.put, List.setIfInBounds_toArray, List.set_cons_zero, List.set_cons_succ]
                  refine wpAnyH_take (i := 10) (v := .tuple #[.agg #[.int .i64 (fbI M0 S0 X1 n2 n3 d3 X4), .int .i64 (fbJ M0 S0 X1 n2 n3 d3 X4)], .bool (fbB M0 S0 X1 n2 n3 d3 X4)]) rfl (by kernel_rfl) (by kernel_rfl) (by kernel_rfl) (fun _ _ _ h => h) (Or.inl ⟨by rfl, by intro wx hx; go_simp⟩) (by assumption) ?_
                  try simp only [List.getElem_toArray, List.getElem_cons_succ, List.getElem_cons_zero, Act.put, List.setIfInBounds_toArray, List.set_cons_zero, List.set_cons_succ]
                  refine wpAnyH_take (i := 11) (v := .agg #[.int .i64 (fbI M0 S0 X1 n2 n3 d3 X4), .int .i64 (fbJ M0 S0 X1 n2 n3 d3 X4)]) rfl (by kernel_rfl) (by kernel_rfl) (by kernel_rfl) (fun _ _ _ h => h) (Or.inl ⟨by rfl, by intro wx hx; go_simp⟩) (by assumption) ?_
                  try simp only [List.getElem_toArray, List.getElem_cons_succ, List.getElem_cons_zero, Act.put, List.setIfInBounds_toArray, List.set_cons_zero, List.set_cons_succ]
                  refine wpAnyH_take (i := 12) (v := .bool (fbB M0 S0 X1 n2 n3 d3 X4)) rfl (by kernel_rfl) (by kernel_rfl) (by kernel_rfl) (fun _ _ _ h => h) (Or.inl ⟨by rfl, by intro wx hx; go_simp⟩) (by assumption) ?_
                  try simp only [List.getElem_toArray, List.getElem_cons_succ, List.getElem_cons_zero, Act.put, List.setIfInBounds_toArray, List.set_cons_zero, List.set_cons_succ]
                  refine wpAnyH_ready (rs := [14]) (by kernel_rfl) (by simp) ?_
                  refine AllReadyH.cons rfl (fun K hK => ?_) AllReadyH.nil
                  go_simp
                  have es := @Ext.set _ _ (@Ext.set _ _ er5 ⟨us3.heap.size, 0, none⟩ hBA (.int .i64 (fbI M0 S0 X1 n2 n3 d3 X4))) ⟨us3.heap.size, 1, none⟩ hBA (.int .i64 (fbJ M0 S0 X1 n2 n3 d3 X4))
                  refine hK.out _ _ ⟨es, es.cell x0, es.cell x1, es.cell fx0, es.cell fx1⟩ (fun _ => ?_)
                  clear hK K
                  try simp only [List.getElem_toArray, List.getElem_cons_succ, List.getElem_cons_zero, Act.put, List.setIfInBounds_toArray, List.set_cons_zero, List.set_cons_succ]
                  refine wpAnyH_take (i := 15) (v := .bool (fbB M0 S0 X1 n2 n3 d3 X4)) rfl (by kernel_rfl) (by kernel_rfl) (by kernel_rfl) (fun _ _ _ h => h) (Or.inl ⟨by rfl, by intro wx hx; go_simp⟩) (by assumption) ?_
                  try simp only [List.getElem_toArray, List.getElem_cons_succ, List.getElem_cons_zero, Act.put, List.setIfInBounds_toArray, List.set_cons_zero, List.set_cons_succ]
                  refine wpAnyH_done (by kernel_rfl) ?_ _
                  go_wp2_with fail
                  go_meet
                  exact ⟨us3.heap.size, rfl, rfl, by simp [go_sem, za0], by simp [go_sem, za1], es⟩
              · go_simp
                have ea : Ext w1 (us2.alloc (.cells #[.int .i64 0, .int .i64 0] 59)) := Ext.trans er2 inferInstance
                have hBA : w1.heap.size ≤ us2.heap.size := er2.size
                have za0 : ((us2.alloc (.cells #[.int .i64 0, .int .i64 0] 59))).cell? ⟨us2.heap.size, 0, none⟩ = some (.int .i64 0) := by go_simp
                have ff0 : ((us2.alloc (.cells #[.int .i64 0, .int .i64 0] 59))).frozen? ⟨us2.heap.size, 0, none⟩ = false := by go_simp
                have za1 : ((us2.alloc (.cells #[.int .i64 0, .int .i64 0] 59))).cell? ⟨us2.heap.size, 1, none⟩ = some (.int .i64 0) := by go_simp
                have ff1 : ((us2.alloc (.cells #[.int .i64 0, .int .i64 0] 59))).frozen? ⟨us2.heap.size, 1, none⟩ = false := by go_simp
                refine hK.out _ _ ⟨ea, ea.cell x0, ea.cell x1, ea.cell fx0, ea.cell fx1⟩ (fun _ => ?_)
                clear hK K
                try simp only [List.getElem_toArray, List.getElem_cons_succ, List.getElem_cons_zero, Act.put, List.setIfInBounds_toArray, List.set_cons_zero, List.set_cons_succ]
                refine wpAnyH_ready (rs := [6]) (by kernel_rfl) (by simp) ?_
                refine AllReadyH.cons rfl (fun K hK => ?_) AllReadyH.nil
                go_simp
                go_at_call 35
                refine (toFrac_any _).mono ?_
                rintro e us3 ⟨rfl, hus3⟩
                have hx2 : Ext us2 us3 := Ext.trans inferInstance hus3
                replace s0 := s0.ext (w' := us3)
                replace s1 := s1.ext (w' := us3)
                go_wp2_with fail
                have er3 : Ext w1 us3 := Ext.trans ea hus3
                replace ff0 := frozen_on hus3 za0 ff0
                replace ff1 := frozen_on hus3 za1 ff1
                replace za0 := hus3.cell za0
                replace za1 := hus3.cell za1
                refine hK.out _ _ ⟨er3, er3.cell x0, er3.cell x1, er3.cell fx0, er3.cell fx1⟩ (fun _ => ?_)
                clear hK K
                try simp only [List.getElem_toArray, List.getElem_cons_succ, List.getElem_cons_zero, Act.put, List.setIfInBounds_toArray, List.set_cons_zero, List.set_cons_succ]
                refine wpAnyH_ready (rs := [8]) (by kernel_rfl) (by simp) ?_
                refine AllReadyH.cons rfl (fun K hK => ?_) AllReadyH.nil
                go_simp
                go_at_call 13
                refine (toIntS_any (w0 := w1) a4).mono ?_
                rintro e us4 ⟨s4_d, s4_m, rfl, s4_own, hus4⟩
                have s4 := s4_own.reads' a4
                clear s4_own
                have hx3 : Ext us3 us4 := Ext.trans inferInstance hus4
                replace s0 := s0.ext (w' := us4)
                replace s1 := s1.ext (w' := us4)
                go_wp2_with fail
                have er4 : Ext w1 us4 := Ext.trans er3 hus4
                replace ff0 := frozen_on hus4 za0 ff0
                replace ff1 := frozen_on hus4 za1 ff1
                replace za0 := hus4.cell za0
                replace za1 := hus4.cell za1
                refine hK.out _ _ ⟨er4, er4.cell x0, er4.cell x1, er4.cell fx0, er4.cell fx1⟩ (fun _ => ?_)
                clear hK K
                try simp only [List.getElem_toArray, List.getElem_cons_succ, List.getElem_cons_zero, Act.put, List.setIfInBounds_toArray, List.set_cons_zero, List.set_cons_succ]
                refine wpAnyH_ready (rs := [9]) (by kernel_rfl) (by simp) ?_
                refine AllReadyH.cons rfl (fun K hK => ?_) AllReadyH.nil
                go_simp
                go_at_call 37
                refine (specFB_any (w0 := us4) s0 s1 a2 s4).mono ?_
                rintro e us5 ⟨rfl, hus5⟩
                go_wp2_with fail
                have er5 : Ext w1 us5 := Ext.trans er4 hus5
                replace ff0 := frozen_on hus5 za0 ff0
                replace ff1 := frozen_on hus5 za1 ff1
                replace za0 := hus5.cell za0
                replace za1 := hus5.cell za1
                refine hK.out _ _ ⟨er5, er5.cell x0, er5.cell x1, er5.cell fx0, er5.cell fx1⟩ (fun _ => ?_)
                clear hK K
                try simp only [List.getElem_toArray, List.getElem_cons_succ, List.getElem_cons_zero, Act.put, List.setIfInBounds_toArray, List.set_cons_zero, List.set_cons_succ]
                refine wpAnyH_take (i := 10) (v := .tuple #[.agg #[.int .i64 (fbI M0 S0 X1 n2 n3 d3 X4), .int .i64 (fbJ M0 S0 X1 n2 n3 d3 X4)], .bool (fbB M0 S0 X1 n2 n3 d3 X4)]) rfl (by kernel_rfl) (by kernel_rfl) (by kernel_rfl) (fun _ _ _ h => h) (Or.inl ⟨by rfl, by intro wx hx; go_simp⟩) (by assumption) ?_
                try simp only [List.getElem_toArray, List.getElem_cons_succ, List.getElem_cons_zero, Act.put, List.setIfInBounds_toArray, List.set_cons_zero, List.set_cons_succ]
                refine wpAnyH_take (i := 11) (v := .agg #[.int .i64 (fbI M0 S0 X1 n2 n3 d3 X4), .int .i64 (fbJ M0 S0 X1 n2 n3 d3 X4)]) rfl (by kernel_rfl) (by kernel_rfl) (by kernel_rfl) (fun _ _ _ h => h) (Or.inl ⟨by rfl, by intro wx hx; go_simp⟩) (by assumption) ?_
                try simp only [List.getElem_toArray, List.getElem_cons_succ, List.getElem_cons_zero, Act.put, List.setIfInBounds_toArray, List.set_cons_zero, List.set_cons_succ]
                refine wpAnyH_take (i := 12) (v := .bool (fbB M0 S0 X1 n2 n3 d3 X4)) rfl (by kernel_rfl) (by kernel_rfl) (by kernel_rfl) (fun _ _ _ h => h) (Or.inl ⟨by rfl, by intro wx hx; go_simp⟩) (by assumption) ?_
                try simp only [List.getElem_toArray, List.getElem_cons_succ, List.getElem_cons_zero, Act.put, List.setIfInBounds_toArray, List.set_cons_zero, List.set_cons_succ]
                refine wpAnyH_ready (rs := [14]) (by kernel_rfl) (by simp) ?_
                refine AllReadyH.cons rfl (fun K hK => ?_) AllReadyH.nil
                go_simp
                have es := @Ext.set _ _ (@Ext.set _ _ er5 ⟨us2.heap.size, 0, none⟩ hBA (.int .i64 (fbI M0 S0 X1 n2 n3 d3 X4))) ⟨us2.heap.size, 1, none⟩ hBA (.int .i64 (fbJ M0 S0 X1 n2 n3 d3 X4))
                refine hK.out _ _ ⟨es, es.cell x0, es.cell x1, es.cell fx0, es.cell fx1⟩ (fun _ => ?_)
                clear hK K
                try simp only [List.getElem_toArray, List.getElem_cons_succ, List.getElem_cons_zero, Act.put, List.setIfInBounds_toArray, List.set_cons_zero, List.set_cons_succ]
                refine wpAnyH_take (i := 15) (v := .bool (fbB M0 S0 X1 n2 n3 d3 X4)) rfl (by kernel_rfl) (by kernel_rfl) (by kernel_rfl) (fun _ _ _ h => h) (Or.inl ⟨by rfl, by intro wx hx; go_simp⟩) (by assumption) ?_
                try simp only [List.getElem_toArray, List.getElem_cons_succ, List.getElem_cons_zero, Act.put, List.setIfInBounds_toArray, List.set_cons_zero, List.set_cons_succ]
                refine wpAnyH_done (by kernel_rfl) ?_ _
                go_wp2_with fail
                go_meet
                exact ⟨us2.heap.size, rfl, rfl, by simp [go_sem, za0], by simp [go_sem, za1], es⟩
            · go_simp
              have ea : Ext w1 (us1.alloc (.cells #[.int .i64 0, .int .i64 0] 59)) := Ext.trans er1 inferInstance
              have hBA : w1.heap.size ≤ us1.heap.size := er1.size
              have za0 : ((us1.alloc (.cells #[.int .i64 0, .int .i64 0] 59))).cell? ⟨us1.heap.size, 0, none⟩ = some (.int .i64 0) := by go_simp
              have ff0 : ((us1.alloc (.cells #[.int .i64 0, .int .i64 0] 59))).frozen? ⟨us1.heap.size, 0, none⟩ = false := by go_simp
              have za1 : ((us1.alloc (.cells #[.int .i64 0, .int .i64 0] 59))).cell? ⟨us1.heap.size, 1, none⟩ = some (.int .i64 0) := by go_simp
              have ff1 : ((us1.alloc (.cells #[.int .i64 0, .int .i64 0] 59))).frozen? ⟨us1.heap.size, 1, none⟩ = false := by go_simp
              refine hK.out _ _ ⟨ea, ea.cell x0, ea.cell x1, ea.cell fx0, ea.cell fx1⟩ (fun _ => ?_)
              clear hK K
              try simp only [List.getElem_toArray, List.getElem_cons_succ, List.getElem_cons_zero, Act.put, List.setIfInBounds_toArray, List.set_cons_zero, List.set_cons_succ]
              refine wpAnyH_ready (rs := [3]) (by kernel_rfl) (by simp) ?_
              refine AllReadyH.cons rfl (fun K hK => ?_) AllReadyH.nil
              go_simp
              go_at_call 22
              refine (toIntSS_any (w0 := w1) a1).mono ?_
              rintro e us2 ⟨s1_d, s1_m, s1_vs, rfl, s1_l, s1_own, hus2⟩
              have s1 := s1_own.readsAll' s1_l a1
              clear s1_own
              have hx1 : Ext us1 us2 := Ext.trans inferInstance hus2
              replace s0 := s0.ext (w' := us2)
              go_wp2_with fail
              have er2 : Ext w1 us2 := Ext.trans ea hus2
              replace ff0 := frozen_on hus2 za0 ff0
              replace ff1 := frozen_on hus2 za1 ff1
              replace za0 := hus2.cell za0
              replace za1 := hus2.cell za1
              refine hK.out _ _ ⟨er2, er2.cell x0, er2.cell x1, er2.cell fx0, er2.cell fx1⟩ (fun _ => ?_)
              clear hK K
              try simp only [List.getElem_toArray, List.getElem_cons_succ, List.getElem_cons_zero, Act.put, List.setIfInBounds_toArray, List.set_cons_zero, List.set_cons_succ]
              refine wpAnyH_ready (rs := [6]) (by kernel_rfl) (by simp) ?_
              refine AllReadyH.cons rfl (fun K hK => ?_) AllReadyH.nil
              go_simp
              go_at_call 35
              refine (toFrac_any _).mono ?_
              rintro e us3 ⟨rfl, hus3⟩
              have hx2 : Ext us2 us3 := Ext.trans inferInstance hus3
              replace s0 := s0.ext (w' := us3)
              replace s1 := s1.ext (w' := us3)
              go_wp2_with fail
              have er3 : Ext w1 us3 := Ext.trans er2 hus3
              replace ff0 := frozen_on hus3 za0 ff0
              replace ff1 := frozen_on hus3 za1 ff1
              replace za0 := hus3.cell za0
              replace za1 := hus3.cell za1
              refine hK.out _ _ ⟨er3, er3.cell x0, er3.cell x1, er3.cell fx0, er3.cell fx1⟩ (fun _ => ?_)
              clear hK K
              try simp only [List.getElem_toArray, List.getElem_cons_succ, List.getElem_cons_zero, Act.put, List.setIfInBounds_toArray, List.set_cons_zero, List.set_cons_succ]
              refine wpAnyH_ready (rs := [8]) (by kernel_rfl) (by simp) ?_
              refine AllReadyH.cons rfl (fun K hK => ?_) AllReadyH.nil
              go_simp
              go_at_call 13
              refine (toIntS_any (w0 := w1) a4).mono ?_
              rintro e us4 ⟨s4_d, s4_m, rfl, s4_own, hus4⟩
              have s4 := s4_own.reads' a4
              clear s4_own
              have hx3 : Ext us3 us4 := Ext.trans inferInstance hus4
              replace s0 := s0.ext (w' := us4)
              replace s1 := s1.ext (w' := us4)
              go_wp2_with fail
              have er4 : Ext w1 us4 := Ext.trans er3 hus4
              replace ff0 := frozen_on hus4 za0 ff0
              replace ff1 := frozen_on hus4 za1 ff1
              replace za0 := hus4.cell za0
              replace za1 := hus4.cell za1
              refine hK.out _ _ ⟨er4, er4.cell x0, er4.cell x1, er4.cell fx0, er4.cell fx1⟩ (fun _ => ?_)
              clear hK K
              try simp only [List.getElem_toArray, List.getElem_cons_succ, List.getElem_cons_zero, Act.put, List.setIfInBounds_toArray, List.set_cons_zero, List.set_cons_succ]
              refine wpAnyH_ready (rs := [9]) (by kernel_rfl) (by simp) ?_
              refine AllReadyH.cons rfl (fun K hK => ?_) AllReadyH.nil
              go_simp
              go_at_call 37
              refine (specFB_any (w0 := us4) s0 s1 a2 s4).mono ?_
              rintro e us5 ⟨rfl, hus5⟩
              go_wp2_with fail
              have er5 : Ext w1 us5 := Ext.trans er4 hus5
              replace ff0 := frozen_on hus5 za0 ff0
              replace ff1 := frozen_on hus5 za1 ff1
              replace za0 := hus5.cell za0
              replace za1 := hus5.cell za1
              refine hK.out _ _ ⟨er5, er5.cell x0, er5.cell x1, er5.cell fx0, er5.cell fx1⟩ (fun _ => ?_)
              clear hK K
              try simp only [List.getElem_toArray, List.getElem_cons_succ, List.getElem_cons_zero, Act.put, List.setIfInBounds_toArray, List.set_cons_zero, List.set_cons_succ]
              refine wpAnyH_take (i := 10) (v := .tuple #[.agg #[.int .i64 (fbI M0 S0 X1 n2 n3 d3 X4), .int .i64 (fbJ M0 S0 X1 n2 n3 d3 X4)], .bool (fbB M0 S0 X1 n2 n3 d3 X4)]) rfl (by kernel_rfl) (by kernel_rfl) (by kernel_rfl) (fun _ _ _ h => h) (Or.inl ⟨by rfl, by intro wx hx; go_simp⟩) (by assumption) ?_
              try simp only [List.getElem_toArray, List.getElem_cons_succ, List.getElem_cons_zero, Act.put, List.setIfInBounds_toArray, List.set_cons_zero, List.set_cons_succ]
              refine wpAnyH_take (i := 11) (v := .agg #[.int .i64 (fbI M0 S0 X1 n2 n3 d3 X4), .int .i64 (fbJ M0 S0 X1 n2 n3 d3 X4)]) rfl (by kernel_rfl) (by kernel_rfl) (by kernel_rfl) (fun _ _ _ h => h) (Or.inl ⟨by rfl, by intro wx hx; go_simp⟩) (by assumption) ?_
              try simp only [List.getElem_toArray, List.getElem_cons_succ, List.getElem_cons_zero, Act.put, List.setIfInBounds_toArray, List.set_cons_zero, List.set_cons_succ]
              refine wpAnyH_take (i := 12) (v := .bool (fbB M0 S0 X1 n2 n3 d3 X4)) rfl (by kernel_rfl) (by kernel_rfl) (by kernel_rfl) (fun _ _ _ h => h) (Or.inl ⟨by rfl, by intro wx hx; go_simp⟩) (by assumption) ?_
              try simp only [List.getElem_toArray, List.getElem_cons_succ, List.getElem_cons_zero, Act.put, List.setIfInBounds_toArray, List.set_cons_zero, List.set_cons_succ]
              refine wpAnyH_ready (rs := [14]) (by kernel_rfl) (by simp) ?_
              refine AllReadyH.cons rfl (fun K hK => ?_) AllReadyH.nil
              go_simp
              have es := @Ext.set _ _ (@Ext.set _ _ er5 ⟨us1.heap.size, 0, none⟩ hBA (.int .i64 (fbI M0 S0 X1 n2 n3 d3 X4))) ⟨us1.heap.size, 1, none⟩ hBA (.int .i64 (fbJ M0 S0 X1 n2 n3 d3 X4))
              refine hK.out _ _ ⟨es, es.cell x0, es.cell x1, es.cell fx0, es.cell fx1⟩ (fun _ => ?_)
              clear hK K
              try simp only [List.getElem_toArray, List.getElem_cons_succ, List.getElem_cons_zero, Act.put, List.setIfInBounds_toArray, List.set_cons_zero, List.set_cons_succ]
              refine wpAnyH_take (i := 15) (v := .bool (fbB M0 S0 X1 n2 n3 d3 X4)) rfl (by kernel_rfl) (by kernel_rfl) (by kernel_rfl) (fun _ _ _ h => h) (Or.inl ⟨by rfl, by intro wx hx; go_simp⟩) (by assumption) ?_
              try simp only [List.getElem_toArray, List.getElem_cons_succ, List.getElem_cons_zero, Act.put, List.setIfInBounds_toArray, List.set_cons_zero, List.set_cons_succ]
              refine wpAnyH_done (by kernel_rfl) ?_ _
              go_wp2_with fail
              go_meet
              exact ⟨us1.heap.size, rfl, rfl, by simp [go_sem, za0], by simp [go_sem, za1], es⟩
          · go_simp
            have ea : Ext w1 ((w1.alloc (.cells #[.int .i64 0, .int .i64 0] 59)).drew) := inferInstance
            have hBA : w1.heap.size ≤ w1.heap.size := Nat.le_refl _
            have za0 : (((w1.alloc (.cells #[.int .i64 0, .int .i64 0] 59)).drew)).cell? ⟨w1.heap.size, 0, none⟩ = some (.int .i64 0) := by go_simp
            have ff0 : (((w1.alloc (.cells #[.int .i64 0, .int .i64 0] 59)).drew)).frozen? ⟨w1.heap.size, 0, none⟩ = false := by go_simp
            have za1 : (((w1.alloc (.cells #[.int .i64 0, .int .i64 0] 59)).drew)).cell? ⟨w1.heap.size, 1, none⟩ = some (.int .i64 0) := by go_simp
            have ff1 : (((w1.alloc (.cells #[.int .i64 0, .int .i64 0] 59)).drew)).frozen? ⟨w1.heap.size, 1, none⟩ = false := by go_simp
            refine hK.out _ _ ⟨ea, ea.cell x0, ea.cell x1, ea.cell fx0, ea.cell fx1⟩ (fun _ => ?_)
            clear hK K
            try simp only [List.getElem_toArray, List.getElem_cons_succ, List.getElem_cons_zero, Act.put, List.setIfInBounds_toArray, List.set_cons_zero, List.set_cons_succ]
            refine wpAnyH_ready (rs := [1]) (by kernel_rfl) (by simp) ?_
            refine AllReadyH.cons rfl (fun K hK => ?_) AllReadyH.nil
            go_simp
            go_at_call 12
            refine (toProblem_any (w0 := w1) a0).mono ?_
            rintro e us1 ⟨s0_d, s0_m, s0_vs, s0_d2, s0_m2, s0_vs2, rfl, s0_l, s0_l2, s0_own, hus1⟩
            have s0 := s0_own.prob' s0_l s0_l2 a0
            clear s0_own
            have hx0 : Ext w1 us1 := Ext.trans inferInstance hus1
            go_wp2_with fail
            have er1 : Ext w1 us1 := Ext.trans ea hus1
            replace ff0 := frozen_on hus1 za0 ff0
            replace ff1 := frozen_on hus1 za1 ff1
            replace za0 := hus1.cell za0
            replace za1 := hus1.cell za1
            refine hK.out _ _ ⟨er1, er1.cell x0, er1.cell x1, er1.cell fx0, er1.cell fx1⟩ (fun _ => ?_)
            clear hK K
            try simp only [List.getElem_toArray, List.getElem_cons_succ, List.getElem_cons_zero, Act.put, List.setIfInBounds_toArray, List.set_cons_zero, List.set_cons_succ]
            refine wpAnyH_ready (rs := [3]) (by kernel_rfl) (by simp) ?_
            refine AllReadyH.cons rfl (fun K hK => ?_) AllReadyH.nil
            go_simp
            go_at_call 22
            refine (toIntSS_any (w0 := w1) a1).mono ?_
            rintro e us2 ⟨s1_d, s1_m, s1_vs, rfl, s1_l, s1_own, hus2⟩
            have s1 := s1_own.readsAll' s1_l a1
            clear s1_own
            have hx1 : Ext us1 us2 := Ext.trans inferInstance hus2
            replace s0 := s0.ext (w' := us2)
            go_wp2_with fail
            have er2 : Ext w1 us2 := Ext.trans er1 hus2
            replace ff0 := frozen_on hus2 za0 ff0
            replace ff1 := frozen_on hus2 za1 ff1
            replace za0 := hus2.cell za0
            replace za1 := hus2.cell za1
            refine hK.out _ _ ⟨er2, er2.cell x0, er2.cell x1, er2.cell fx0, er2.cell fx1⟩ (fun _ => ?_)
            clear hK K
            try simp only [List.getElem_toArray, List.getElem_cons_succ, List.getElem_cons_zero, Act.put, List.setIfInBounds_toArray, List.set_cons_zero, List.set_cons_succ]
            refine wpAnyH_ready (rs := [6]) (by kernel_rfl) (by simp) ?_
            refine AllReadyH.cons rfl (fun K hK => ?_) AllReadyH.nil
            go_simp
            go_at_call 35
            refine (toFrac_any _).mono ?_
            rintro e us3 ⟨rfl, hus3⟩
            have hx2 : Ext us2 us3 := Ext.trans inferInstance hus3
            replace s0 := s0.ext (w' := us3)
            replace s1 := s1.ext (w' := us3)
            go_wp2_with fail
            have er3 : Ext w1 us3 := Ext.trans er2 hus3
            replace ff0 := frozen_on hus3 za0 ff0
            replace ff1 := frozen_on hus3 za1 ff1
            replace za0 := hus3.cell za0
            replace za1 := hus3.cell za1
            refine hK.out _ _ ⟨er3, er3.cell x0, er3.cell x1, er3.cell fx0, er3.cell fx1⟩ (fun _ => ?_)
            clear hK K
            try simp only [List.getElem_toArray, List.getElem_cons_succ, List.getElem_cons_zero, Act.put, List.setIfInBounds_toArray, List.set_cons_zero, List.set_cons_succ]
            refine wpAnyH_ready (rs := [8]) (by kernel_rfl) (by simp) ?_
            refine AllReadyH.cons rfl (fun K hK => ?_) AllReadyH.nil
            go_simp
            go_at_call 13
            refine (toIntS_any (w0 := w1) a4).mono ?_
            rintro e us4 ⟨s4_d, s4_m, rfl, s4_own, hus4⟩
            have s4 := s4_own.reads' a4
            clear s4_own
            have hx3 : Ext us3 us4 := Ext.trans inferInstance hus4
            replace s0 := s0.ext (w' := us4)
            replace s1 := s1.ext (w' := us4)
            go_wp2_with fail
            have er4 : Ext w1 us4 := Ext.trans er3 hus4
            replace ff0 := frozen_on hus4 za0 ff0
            replace ff1 := frozen_on hus4 za1 ff1
            replace za0 := hus4.cell za0
            replace za1 := hus4.cell za1
            refine hK.out _ _ ⟨er4, er4.cell x0, er4.cell x1, er4.cell fx0, er4.cell fx1⟩ (fun _ => ?_)
            clear hK K
            try simp only [List.getElem_toArray, List.getElem_cons_succ, List.getElem_cons_zero, Act.put, List.setIfInBounds_toArray, List.set_cons_zero, List.set_cons_succ]
            refine wpAnyH_ready (rs := [9]) (by kernel_rfl) (by simp) ?_
            refine AllReadyH.cons rfl (fun K hK => ?_) AllReadyH.nil
            go_simp
            go_at_call 37
            refine (specFB_any (w0 := us4) s0 s1 a2 s4).mono ?_
            rintro e us5 ⟨rfl, hus5⟩
            go_wp2_with fail
            have er5 : Ext w1 us5 := Ext.trans er4 hus5
            replace ff0 := frozen_on hus5 za0 ff0
            replace ff1 := frozen_on hus5 za1 ff1
            replace za0 := hus5.cell za0
            replace za1 := hus5.cell za1
            refine hK.out _ _ ⟨er5, er5.cell x0, er5.cell x1, er5.cell fx0, er5.cell fx1⟩ (fun _ => ?_)
            clear hK K
            try simp only [List.getElem_toArray, List.getElem_cons_succ, List.getElem_cons_zero, Act.put, List.setIfInBounds_toArray, List.set_cons_zero, List.set_cons_succ]
            refine wpAnyH_take (i := 10) (v := .tuple #[.agg #[.int .i64 (fbI M0 S0 X1 n2 n3 d3 X4), .int .i64 (fbJ M0 S0 X1 n2 n3 d3 X4)], .bool (fbB M0 S0 X1 n2 n3 d3 X4)]) rfl (by kernel_rfl) (by kernel_rfl) (by kernel_rfl) (fun _ _ _ h => h) (Or.inl ⟨by rfl, by intro wx hx; go_simp⟩) (by assumption) ?_
            try simp only [List.getElem_toArray, List.getElem_cons_succ, List.getElem_cons_zero, Act.put, List.setIfInBounds_toArray, List.set_cons_zero, List.set_cons_succ]
            refine wpAnyH_take (i := 11) (v := .agg #[.int .i64 (fbI M0 S0 X1 n2 n3 d3 X4), .int .i64 (fbJ M0 S0 X1 n2 n3 d3 X4)]) rfl (by kernel_rfl) (by kernel_rfl) (by kernel_rfl) (fun _ _ _ h => h) (Or.inl ⟨by rfl, by intro wx hx; go_simp⟩) (by assumption) ?_
            try simp only [List.getElem_toArray, List.getElem_cons_succ, List.getElem_cons_zero, Act.put, List.setIfInBounds_toArray, List.set_cons_zero, List.set_cons_succ]
            refine wpAnyH_take (i := 12) (v := .bool (fbB M0 S0 X1 n2 n3 d3 X4)) rfl (by kernel_rfl) (by kernel_rfl) (by kernel_rfl) (fun _ _ _ h => h) (Or.inl ⟨by rfl, by intro wx hx; go_simp⟩) (by assumption) ?_
            try simp only [List.getElem_toArray, List.getElem_cons_succ, List.getElem_cons_zero, Act.put, List.setIfInBounds_toArray, List.set_cons_zero, List.set_cons_succ]
            refine wpAnyH_ready (rs := [14]) (by kernel_rfl) (by simp) ?_
            refine AllReadyH.cons rfl (fun K hK => ?_) AllReadyH.nil
            go_simp
            have es := @Ext.set _ _ (@Ext.set _ _ er5 ⟨w1.heap.size, 0, none⟩ hBA (.int .i64 (fbI M0 S0 X1 n2 n3 d3 X4))) ⟨w1.heap.size, 1, none⟩ hBA (.int .i64 (fbJ M0 S0 X1 n2 n3 d3 X4))
            refine hK.out _ _ ⟨es, es.cell x0, es.cell x1, es.cell fx0, es.cell fx1⟩ (fun _ => ?_)
            clear hK K
            try simp only [List.getElem_toArray, List.getElem_cons_succ, List.getElem_cons_zero, Act.put, List.setIfInBounds_toArray, List.set_cons_zero, List.set_cons_succ]
            refine wpAnyH_take (i := 15) (v := .bool (fbB M0 S0 X1 n2 n3 d3 X4)) rfl (by kernel_rfl) (by kernel_rfl) (by kernel_rfl) (fun _ _ _ h => h) (Or.inl ⟨by rfl, by intro wx hx; go_simp⟩) (by assumption) ?_
            try simp only [List.getElem_toArray, List.getElem_cons_succ, List.getElem_cons_zero, Act.put, List.setIfInBounds_toArray, List.set_cons_zero, List.set_cons_succ]
            refine wpAnyH_done (by kernel_rfl) ?_ _
            go_wp2_with fail
            go_meet
            exact ⟨w1.heap.size, rfl, rfl, by simp [go_sem, za0], by simp [go_sem, za1], es⟩
        case rest =>
          obtain ⟨u_B, rfl, rfl, u_0, u_1, hbc⟩ := hcut
          have hb : Ext w1 wc := hbc
          clear hbc
          obtain ⟨w2, rfl⟩ : ∃ x : World, x = wc := ⟨_, rfl⟩
          have hbw2 : Ext w1 w2 := Ext.trans inferInstance hb
          clear hb
          replace x0 := hbw2.cell x0
          replace x1 := hbw2.cell x1
          replace fx0 := hbw2.cell fx0
          replace fx1 := hbw2.cell fx1
          replace a0 := a0.ext (w' := w2)
          replace a1 := a1.ext (w' := w2)
          replace a4 := a4.ext (w' := w2)
          replace e1 := Ext.trans e1 hbw2
          go_wp2_with fail
          refine (toProblem_any (w0 := w2) a0).mono ?_
          rintro e w3 ⟨x_0_d, x_0_m, x_0_vs, x_0_d2, x_0_m2, x_0_vs2, rfl, x_0_l, x_0_l2, x_0_own, hb⟩
          have x_0 := x_0_own.prob' x_0_l x_0_l2 a0
          have hbw3 : Ext w2 w3 := Ext.trans inferInstance hb
          clear hb
          replace x0 := hbw3.cell x0
          replace x1 := hbw3.cell x1
          replace fx0 := hbw3.cell fx0
          replace fx1 := hbw3.cell fx1
          replace u_0 := hbw3.cell u_0
          replace u_1 := hbw3.cell u_1
          replace a0 := a0.ext (w' := w3)
          replace a1 := a1.ext (w' := w3)
          replace a4 := a4.ext (w' := w3)
          replace e1 := Ext.trans e1 hbw3
          clear x_0_own
          go_wp2_with fail
          refine (toIntSS_any (w0 := w3) a1).mono ?_
          rintro e w4 ⟨x_1_d, x_1_m, x_1_vs, rfl, x_1_l, x_1_own, hb⟩
          have x_1 := x_1_own.readsAll' x_1_l a1
          have y0 : w4.cell? ⟨w3.heap.size, 0, none⟩ = some (.slice x_0_d M0.length x_0_m) := hb.cell (by go_simp)
          have y1 : w4.cell? ⟨w3.heap.size, 1, none⟩ = some (.slice x_0_d2 S0.length x_0_m2) := hb.cell (by go_simp)
          have hbw4 : Ext w3 w4 := Ext.trans inferInstance hb
          clear hb
          replace x0 := hbw4.cell x0
          replace x1 := hbw4.cell x1
          replace fx0 := hbw4.cell fx0
          replace fx1 := hbw4.cell fx1
          replace u_0 := hbw4.cell u_0
          replace u_1 := hbw4.cell u_1
          replace a0 := a0.ext (w' := w4)
          replace a1 := a1.ext (w' := w4)
          replace a4 := a4.ext (w' := w4)
          replace x_0 := x_0.ext (w' := w4)
          replace e1 := Ext.trans e1 hbw4
          clear x_1_own
          go_wp2_with fail
          refine (toIntS_any (w0 := w4) a4).mono ?_
          rintro e w5 ⟨x_4_d, x_4_m, rfl, x_4_own, hb⟩
          have x_4 := x_4_own.reads' a4
          have hbw5 : Ext w4 w5 := Ext.trans inferInstance hb
          clear hb
          replace x0 := hbw5.cell x0
          replace x1 := hbw5.cell x1
          replace y0 := hbw5.cell y0
          replace y1 := hbw5.cell y1
          replace fx0 := hbw5.cell fx0
          replace fx1 := hbw5.cell fx1
          replace u_0 := hbw5.cell u_0
          replace u_1 := hbw5.cell u_1
          replace a0 := a0.ext (w' := w5)
          replace a1 := a1.ext (w' := w5)
          replace a4 := a4.ext (w' := w5)
          replace x_0 := x_0.ext (w' := w5)
          replace x_1 := x_1.ext (w' := w5)
          replace e1 := Ext.trans e1 hbw5
          clear x_4_own
          go_upto_region 14 with fail
          go_cut [17, 18] (fun p r wx => ∃ bb : Nat, p = .pointer (some ⟨bb, 0, none⟩) ∧ r = .bool (fbB M0 S0 X1 n2 n3 d3 X4) ∧ wx.cell? ⟨bb, 0, none⟩ = some (.int .i64 (fbI M0 S0 X1 n2 n3 d3 X4)) ∧ wx.cell? ⟨bb, 1, none⟩ = some (.int .i64 (fbJ M0 S0 X1 n2 n3 d3 X4)) ∧ Ext w5 wx)
          case first =>
            have ed : Ext w5 (w5).drew := inferInstance
            refine wp_region_held_drew (S := fun w' => Ext w5 w' ∧ w'.cell? ⟨w3.heap.size, 0, none⟩ = some (.slice x_0_d M0.length x_0_m) ∧ w'.cell? ⟨w3.heap.size, 1, none⟩ = some (.slice x_0_d2 S0.length x_0_m2) ∧ w'.cell? ⟨w.heap.size + 1, 0, none⟩ = some (.int .i64 n3) ∧ w'.cell? ⟨w.heap.size + 1, 1, none⟩ = some (.int .i64 d3)) (by kernel_rfl) ⟨ed, ed.cell y0, ed.cell y1, ed.cell fx0, ed.cell fx1⟩ (fun hHeld0 => ?_)
            refine wpAnyH_take (i := 0) (v := .agg #[.slice x_0_d M0.length x_0_m, .slice x_0_d2 S0.length x_0_m2]) rfl (by kernel_rfl) (by kernel_rfl) (by kernel_rfl) (fun _ _ _ h => h) (Or.inl ⟨by rfl, by intro wx hx; obtain ⟨_, _, _, _, _⟩ := hx; go_simp⟩) (by assumption) ?_
            try simp only [List.getElem_toArray, List.getElem_cons_zero, Act.put, List.setIfInBounds_toArray, List.set_cons_zero, List.set_cons_succ]
            refine wpAnyH_take (i := 1) (v := .slice x_1_d X1.length x_1_m) rfl (by kernel_rfl) (by kernel_rfl) (by kernel_rfl) (fun _ _ _ h => h) (Or.inl ⟨by rfl, by intro wx hx; go_simp⟩) (by assumption) ?_
            try simp only [List.getElem_toArray, List.getElem_cons_succ, List.getElem_cons_zero, Act.put, List.setIfInBounds_toArray, List.set_cons_zero, List.set_cons_succ]
            refine wpAnyH_take (i := 2) (v := .int .i64 n2) rfl (by kernel_rfl) (by kernel_rfl) (by kernel_rfl) (fun _ _ _ h => h) (Or.inl ⟨by rfl, by intro wx hx; go_simp⟩) (by assumption) ?_
            try simp only [List.getElem_toArray, List.getElem_cons_succ, List.getElem_cons_zero, Act.put, List.setIfInBounds_toArray, List.set_cons_zero, List.set_cons_succ]
            refine wpAnyH_take (i := 3) (v := .agg #[.int .i64 n3, .int .i64 d3]) rfl (by kernel_rfl) (by kernel_rfl) (by kernel_rfl) (fun _ _ _ h => h) (Or.inl ⟨by rfl, by intro wx hx; obtain ⟨_, _, _, _, _⟩ := hx; go_simp⟩) (by assumption) ?_
            try simp only [List.getElem_toArray, List.getElem_cons_succ, List.getElem_cons_zero, Act.put, List.setIfInBounds_toArray, List.set_cons_zero, List.set_cons_succ]
            refine wpAnyH_take (i := 5) (v := .slice x_4_d X4.length x_4_m) rfl (by kernel_rfl) (by kernel_rfl) (by kernel_rfl) (fun _ _ _ h => h) (Or.inl ⟨by rfl, by intro wx hx; go_simp⟩) (by assumption) ?_
            try simp only [List.getElem_toArray, List.getElem_cons_succ, List.getElem_cons_zero, Act.put, List.setIfInBounds_toArray, List.set_cons_zero, List.set_cons_succ]
            refine wpAnyH_ready (rs := [4, 10]) (by kernel_rfl) (by simp) ?_
            refine AllReadyH.cons rfl (fun K hK => ?_) (AllReadyH.cons rfl (fun K hK => ?_) AllReadyH.nil)
            · go_simp
              go_at_call 35
              refine (toFrac_any _).mono ?_
              rintro e ui1 ⟨rfl, hui1⟩
              have hx0 : Ext w5 ui1 := Ext.trans inferInstance hui1
              go_wp2_with fail
              have er1 : Ext w5 ui1 := Ext.trans ed hui1
              refine hK.out _ _ ⟨er1, er1.cell y0, er1.cell y1, er1.cell fx0, er1.cell fx1⟩ (fun _ => ?_)
              clear hK K
              try simp only [List.getElem_toArray, List.getElem_cons_succ, List.getElem_cons_zero, Act.put, List.setIfInBounds_toArray, List.set_cons_zero, List.set_cons_succ]
              refine wpAnyH_ready (rs := [6, 10]) (by kernel_rfl) (by simp) ?_
              refine AllReadyH.cons rfl (fun K hK => ?_) (AllReadyH.cons rfl (fun K hK => ?_) AllReadyH.nil)
              · go_simp
                go_at_call 38
                refine (implFB_any (w0 := w5) x_0 x_1 a2 x_4).mono ?_
                rintro e ui2 ⟨rfl, hui2⟩
                go_wp2_with fail
                have er2 : Ext w5 ui2 := Ext.trans er1 hui2
                refine hK.out _ _ ⟨er2, er2.cell y0, er2.cell y1, er2.cell fx0, er2.cell fx1⟩ (fun _ => ?_)
                clear hK K
                try simp only [List.getElem_toArray, List.getElem_cons_succ, List.getElem_cons_zero, Act.put, List.setIfInBounds_toArray, List.set_cons_zero, List.set_cons_succ]
                refine wpAnyH_take (i := 7) (v := .tuple #[.agg #[.int .i64 (fbI M0 S0 X1 n2 n3 d3 X4), .int .i64 (fbJ M0 S0 X1 n2 n3 d3 X4)], .bool (fbB M0 S0 X1 n2 n3 d3 X4)]) rfl (by kernel_rfl) (by kernel_rfl) (by kernel_rfl) (fun _ _ _ h => h) (Or.inl ⟨by rfl, by intro wx hx; go_simp⟩) (by assumption) ?_
                try simp only [List.getElem_toArray, List.getElem_cons_succ, List.getElem_cons_zero, Act.put, List.setIfInBounds_toArray, List.set_cons_zero, List.set_cons_succ]
                refine wpAnyH_take (i := 8) (v := .agg #[.int .i64 (fbI M0 S0 X1 n2 n3 d3 X4), .int .i64 (fbJ M0 S0 X1 n2 n3 d3 X4)]) rfl (by kernel_rfl) (by kernel_rfl) (by kernel_rfl) (fun _ _ _ h => h) (Or.inl ⟨by rfl, by intro wx hx; go_simp⟩) (by assumption) ?_
                try simp only [List.getElem_toArray, List.getElem_cons_succ, List.getElem_cons_zero, Act.put, List.setIfInBounds_toArray, List.set_cons_zero, List.set_cons_succ]
                refine wpAnyH_take (i := 9) (v := .bool (fbB M0 S0 X1 n2 n3 d3 X4)) rfl (by kernel_rfl) (by kernel_rfl) (by kernel_rfl) (fun _ _ _ h => h) (Or.inl ⟨by rfl, by intro wx hx; go_simp⟩) (by assumption) ?_
                try simp only [List.getElem_toArray, List.getElem_cons_succ, List.getElem_cons_zero, Act.put, List.setIfInBounds_toArray, List.set_cons_zero, List.set_cons_succ]
                have ea : Ext w5 (ui2.alloc (.cells #[.int .i64 0, .int .i64 0] 59)) := Ext.trans er2 inferInstance
                refine wpAnyH_ready (rs := [10]) (by kernel_rfl) (by simp) ?_
                refine AllReadyH.cons rfl (fun K hK => ?_) AllReadyH.nil
                go_simp
                refine hK.out _ _ ⟨ea, ea.cell y0, ea.cell y1, ea.cell fx0, ea.cell fx1⟩ (fun _ => ?_)
                clear hK K
                try simp only [List.getElem_toArray, List.getElem_cons_succ, List.getElem_cons_zero, Act.put, List.setIfInBounds_toArray, List.set_cons_zero, List.set_cons_succ]
                have eb : Ext w5 (ui2.alloc (.cells #[.int .i64 (fbI M0 S0 X1 n2 n3 d3 X4), .int .i64 (fbJ M0 S0 X1 n2 n3 d3 X4)] 59)) := Ext.trans er2 inferInstance
                refine wpAnyH_ready (rs := [11]) (by kernel_rfl) (by simp) ?_
                refine AllReadyH.cons rfl (fun K hK => ?_) AllReadyH.nil
                go_simp
                refine hK.out _ _ ⟨eb, eb.cell y0, eb.cell y1, eb.cell fx0, eb.cell fx1⟩ (fun _ => ?_)
                clear hK K
                try simp only [List.getElem_toArray, List.getElem_cons_succ, List.getElem_cons_zero, Act.put, List.setIfInBounds_toArray, List.set_cons_zero, List.set_cons_succ]
                refine wpAnyH_take (i := 12) (v := .bool (fbB M0 S0 X1 n2 n3 d3 X4)) rfl (by kernel_rfl) (by kernel_rfl) (by kernel_rfl) (fun _ _ _ h => h) (Or.inl ⟨by rfl, by intro wx hx; go_simp⟩) (by assumption) ?_
                try simp only [List.getElem_toArray, List.getElem_cons_succ, List.getElem_cons_zero, Act.put, List.setIfInBounds_toArray, List.set_cons_zero, List.set_cons_succ]
                refine wpAnyH_done (by kernel_rfl) ?_ _
                go_wp2_with fail
                go_meet
                exact ⟨ui2.heap.size, rfl, rfl, by go_simp, by go_simp, eb⟩
              · go_simp
                have ea : Ext w5 (ui1.alloc (.cells #[.int .i64 0, .int .i64 0] 59)) := Ext.trans er1 inferInstance
                have hBA : w5.heap.size ≤ ui1.heap.size := er1.size
                have za0 : ((ui1.alloc (.cells #[.int .i64 0, .int .i64 0] 59))).cell? ⟨ui1.heap.size, 0, none⟩ = some (.int .i64 0) := by go_simp
                have ff0 : ((ui1.alloc (.cells #[.int .i64 0, .int .i64 0] 59))).frozen? ⟨ui1.heap.size, 0, none⟩ = false := by go_simp
                have za1 : ((ui1.alloc (.cells #[.int .i64 0, .int .i64 0] 59))).cell? ⟨ui1.heap.size, 1, none⟩ = some (.int .i64 0) := by go_simp
                have ff1 : ((ui1.alloc (.cells #[.int .i64 0, .int .i64 0] 59))).frozen? ⟨ui1.heap.size, 1, none⟩ = false := by go_simp
                refine hK.out _ _ ⟨ea, ea.cell y0, ea.cell y1, ea.cell fx0, ea.cell fx1⟩ (fun _ => ?_)
                clear hK K
                try simp only [List.getElem_toArray, List.getElem_cons_succ, List.getElem_cons_zero, Act.put, List.setIfInBounds_toArray, List.set_cons_zero, List.set_cons_succ]
                refine wpAnyH_ready (rs := [6]) (by kernel_rfl) (by simp) ?_
                refine AllReadyH.cons rfl (fun K hK => ?_) AllReadyH.nil
                go_simp
                go_at_call 38
                refine (implFB_any (w0 := w5) x_0 x_1 a2 x_4).mono ?_
                rintro e ui2 ⟨rfl, hui2⟩
                go_wp2_with fail
                have er2 : Ext w5 ui2 := Ext.trans ea hui2
                replace ff0 := frozen_on hui2 za0 ff0
                replace ff1 := frozen_on hui2 za1 ff1
                replace za0 := hui2.cell za0
                replace za1 := hui2.cell za1
                refine hK.out _ _ ⟨er2, er2.cell y0, er2.cell y1, er2.cell fx0, er2.cell fx1⟩ (fun _ => ?_)
                clear hK K
                try simp only [List.getElem_toArray, List.getElem_cons_succ, List.getElem_cons_zero, Act.put, List.setIfInBounds_toArray, List.set_cons_zero, List.set_cons_succ]
                refine wpAnyH_take (i := 7) (v := .tuple #[.agg #[.int .i64 (fbI M0 S0 X1 n2 n3 d3 X4), .int .i64 (fbJ M0 S0 X1 n2 n3 d3 X4)], .bool (fbB M0 S0 X1 n2 n3 d3 X4)]) rfl (by kernel_rfl) (by kernel_rfl) (by kernel_rfl) (fun _ _ _ h => h) (Or.inl ⟨by rfl, by intro wx hx; go_simp⟩) (by assumption) ?_
                try simp only [List.getElem_toArray, List.getElem_cons_succ, List.getElem_cons_zero, Act.put, List.setIfInBounds_toArray, List.set_cons_zero, List.set_cons_succ]
                refine wpAnyH_take (i := 8) (v := .agg #[.int .i64 (fbI M0 S0 X1 n2 n3 d3 X4), .int .i64 (fbJ M0 S0 X1 n2 n3 d3 X4)]) rfl (by kernel_rfl) (by kernel_rfl) (by kernel_rfl) (fun _ _ _ h => h) (Or.inl ⟨by rfl, by intro wx hx; go_simp⟩) (by assumption) ?_
                try simp only [List.getElem_toArray, List.getElem_cons_succ, List.getElem_cons_zero, Act.put, List.setIfInBounds_toArray, List.set_cons_zero, List.set_cons_succ]
                refine wpAnyH_take (i := 9) (v := .bool (fbB M0 S0 X1 n2 n3 d3 X4)) rfl (by kernel_rfl) (by kernel_rfl) (by kernel_rfl) (fun _ _ _ h => h) (Or.inl ⟨by rfl, by intro wx hx; go_simp⟩) (by assumption) ?_
                try simp only [List.getElem_toArray, List.getElem_cons_succ, List.getElem_cons_zero, Act.put, List.setIfInBounds_toArray, List.set_cons_zero, List.set_cons_succ]
                refine wpAnyH_ready (rs := [11]) (by kernel_rfl) (by simp) ?_
                refine AllReadyH.cons rfl (fun K hK => ?_) AllReadyH.nil
                go_simp
                have es := @Ext.set _ _ (@Ext.set _ _ er2 ⟨ui1.heap.size, 0, none⟩ hBA (.int .i64 (fbI M0 S0 X1 n2 n3 d3 X4))) ⟨ui1.heap.size, 1, none⟩ hBA (.int .i64 (fbJ M0 S0 X1 n2 n3 d3 X4))
                refine hK.out _ _ ⟨es, es.cell y0, es.cell y1, es.cell fx0, es.cell fx1⟩ (fun _ => ?_)
                clear hK K
                try simp only [List.getElem_toArray, List.getElem_cons_succ, List.getElem_cons_zero, Act.put, List.setIfInBounds_toArray, List.set_cons_zero, List.set_cons_succ]
                refine wpAnyH_take (i := 12) (v := .bool (fbB M0 S0 X1 n2 n3 d3 X4)) rfl (by kernel_rfl) (by kernel_rfl) (by kernel_rfl) (fun _ _ _ h => h) (Or.inl ⟨by rfl, by intro wx hx; go_simp⟩) (by assumption) ?_
                try simp only [List.getElem_toArray, List.getElem_cons_succ, List.getElem_cons_zero, Act.put, List.setIfInBounds_toArray, List.set_cons_zero, List.set_cons_succ]
                refine wpAnyH_done (by kernel_rfl) ?_ _
                go_wp2_with fail
                go_meet
                exact ⟨ui1.heap.size, rfl, rfl, by simp [go_sem, za0], by simp [go_sem, za1], es⟩
            · go_simp
              have ea : Ext w5 ((w5.alloc (.cells #[.int .i64 0, .int .i64 0] 59)).drew) := inferInstance
              have hBA : w5.heap.size ≤ w5.heap.size := Nat.le_refl _
              have za0 : (((w5.alloc (.cells #[.int .i64 0, .int .i64 0] 59)).drew)).cell? ⟨w5.heap.size, 0, none⟩ = some (.int .i64 0) := by go_simp
              have ff0 : (((w5.alloc (.cells #[.int .i64 0, .int .i64 0] 59)).drew)).frozen? ⟨w5.heap.size, 0, none⟩ = false := by go_simp
              have za1 : (((w5.alloc (.cells #[.int .i64 0, .int .i64 0] 59)).drew)).cell? ⟨w5.heap.size, 1, none⟩ = some (.int .i64 0) := by go_simp
              have ff1 : (((w5.alloc (.cells #[.int .i64 0, .int .i64 0] 59)).drew)).frozen? ⟨w5.heap.size, 1, none⟩ = false := by go_simp
              refine hK.out _ _ ⟨ea, ea.cell y0, ea.cell y1, ea.cell fx0, ea.cell fx1⟩ (fun _ => ?_)
              clear hK K
              try simp only [List.getElem_toArray, List.getElem_cons_succ, List.getElem_cons_zero, Act.put, List.setIfInBounds_toArray, List.set_cons_zero, List.set_cons_succ]
              refine wpAnyH_ready (rs := [4]) (by kernel_rfl) (by simp) ?_
              refine AllReadyH.cons rfl (fun K hK => ?_) AllReadyH.nil
              go_simp
              go_at_call 35
              refine (toFrac_any _).mono ?_
              rintro e ui1 ⟨rfl, hui1⟩
              have hx0 : Ext w5 ui1 := Ext.trans inferInstance hui1
              go_wp2_with fail
              have er1 : Ext w5 ui1 := Ext.trans ea hui1
              replace ff0 := frozen_on hui1 za0 ff0
              replace ff1 := frozen_on hui1 za1 ff1
              replace za0 := hui1.cell za0
              replace za1 := hui1.cell za1
              refine hK.out _ _ ⟨er1, er1.cell y0, er1.cell y1, er1.cell fx0, er1.cell fx1⟩ (fun _ => ?_)
              clear hK K
              try simp only [List.getElem_toArray, List.getElem_cons_succ, List.getElem_cons_zero, Act.put, List.setIfInBounds_toArray, List.set_cons_zero, List.set_cons_succ]
              refine wpAnyH_ready (rs := [6]) (by kernel_rfl) (by simp) ?_
              refine AllReadyH.cons rfl (fun K hK => ?_) AllReadyH.nil
              go_simp
              go_at_call 38
              refine (implFB_any (w0 := w5) x_0 x_1 a2 x_4).mono ?_
              rintro e ui2 ⟨rfl, hui2⟩
              go_wp2_with fail
              have er2 : Ext w5 ui2 := Ext.trans er1 hui2
              replace ff0 := frozen_on hui2 za0 ff0
              replace ff1 := frozen_on hui2 za1 ff1
              replace za0 := hui2.cell za0
              replace za1 := hui2.cell za1
              refine hK.out _ _ ⟨er2, er2.cell y0, er2.cell y1, er2.cell fx0, er2.cell fx1⟩ (fun _ => ?_)
              clear hK K
              try simp only [List.getElem_toArray, List.getElem_cons_succ, List.getElem_cons_zero, Act.put, List.setIfInBounds_toArray, List.set_cons_zero, List.set_cons_succ]
              refine wpAnyH_take (i := 7) (v := .tuple #[.agg #[.int .i64 (fbI M0 S0 X1 n2 n3 d3 X4), .int .i64 (fbJ M0 S0 X1 n2 n3 d3 X4)], .bool (fbB M0 S0 X1 n2 n3 d3 X4)]) rfl (by kernel_rfl) (by kernel_rfl) (by kernel_rfl) (fun _ _ _ h => h) (Or.inl ⟨by rfl, by intro wx hx; go_simp⟩) (by assumption) ?_
              try simp only [List.getElem_toArray, List.getElem_cons_succ, List.getElem_cons_zero, Act.put, List.setIfInBounds_toArray, List.set_cons_zero, List.set_cons_succ]
              refine wpAnyH_take (i := 8) (v := .agg #[.int .i64 (fbI M0 S0 X1 n2 n3 d3 X4), .int .i64 (fbJ M0 S0 X1 n2 n3 d3 X4)]) rfl (by kernel_rfl) (by kernel_rfl) (by kernel_rfl) (fun _ _ _ h => h) (Or.inl ⟨by rfl, by intro wx hx; go_simp⟩) (by assumption) ?_
              try simp only [List.getElem_toArray, List.getElem_cons_succ, List.getElem_cons_zero, Act.put, List.setIfInBounds_toArray, List.set_cons_zero, List.set_cons_succ]
              refine wpAnyH_take (i := 9) (v := .bool (fbB M0 S0 X1 n2 n3 d3 X4)) rfl (by kernel_rfl) (by kernel_rfl) (by kernel_rfl) (fun _ _ _ h => h) (Or.inl ⟨by rfl, by intro wx hx; go_simp⟩) (by assumption) ?_
              try simp only [List.getElem_toArray, List.getElem_cons_succ, List.getElem_cons_zero, Act.put, List.setIfInBounds_toArray, List.set_cons_zero, List.set_cons_succ]
              refine wpAnyH_ready (rs := [11]) (by kernel_rfl) (by simp) ?_
              refine AllReadyH.cons rfl (fun K hK => ?_) AllReadyH.nil
              go_simp
              have es := @Ext.set _ _ (@Ext.set _ _ er2 ⟨w5.heap.size, 0, none⟩ hBA (.int .i64 (fbI M0 S0 X1 n2 n3 d3 X4))) ⟨w5.heap.size, 1, none⟩ hBA (.int .i64 (fbJ M0 S0 X1 n2 n3 d3 X4))
              refine hK.out _ _ ⟨es, es.cell y0, es.cell y1, es.cell fx0, es.cell fx1⟩ (fun _ => ?_)
              clear hK K
              try simp only [List.getElem_toArray, List.getElem_cons_succ, List.getElem_cons_zero, Act.put, List.setIfInBounds_toArray, List.set_cons_zero, List.set_cons_succ]
              refine wpAnyH_take (i := 12) (v := .bool (fbB M0 S0 X1 n2 n3 d3 X4)) rfl (by kernel_rfl) (by kernel_rfl) (by kernel_rfl) (fun _ _ _ h => h) (Or.inl ⟨by rfl, by intro wx hx; go_simp⟩) (by assumption) ?_
              try simp only [List.getElem_toArray, List.getElem_cons_succ, List.getElem_cons_zero, Act.put, List.setIfInBounds_toArray, List.set_cons_zero, List.set_cons_succ]
              refine wpAnyH_done (by kernel_rfl) ?_ _
              go_wp2_with fail
              go_meet
              exact ⟨w5.heap.size, rfl, rfl, by simp [go_sem, za0], by simp [go_sem, za1], es⟩
          case rest =>
            obtain ⟨v_B, rfl, rfl, v_0, v_1, hbc⟩ := hcut
            have hb : Ext w5 wc := hbc
            clear hbc
            obtain ⟨w6, rfl⟩ : ∃ x : World, x = wc := ⟨_, rfl⟩
            have hbw6 : Ext w5 w6 := Ext.trans inferInstance hb
            clear hb
            replace x0 := hbw6.cell x0
            replace x1 := hbw6.cell x1
            replace y0 := hbw6.cell y0
            replace y1 := hbw6.cell y1
            replace fx0 := hbw6.cell fx0
            replace fx1 := hbw6.cell fx1
            replace u_0 := hbw6.cell u_0
            replace u_1 := hbw6.cell u_1
            replace a0 := a0.ext (w' := w6)
            replace a1 := a1.ext (w' := w6)
            replace a4 := a4.ext (w' := w6)
            replace x_0 := x_0.ext (w' := w6)
            replace x_1 := x_1.ext (w' := w6)
            replace x_4 := x_4.ext (w' := w6)
            replace e1 := Ext.trans e1 hbw6
            generalize hr0 : (fbI M0 S0 X1 n2 n3 d3 X4) = r0 at *
            replace hr0 := hid hr0
            generalize hq0 : (fbJ M0 S0 X1 n2 n3 d3 X4) = q0 at *
            replace hq0 := hid hq0
            generalize hr1 : (fbB M0 S0 X1 n2 n3 d3 X4) = r1 at *
            replace hr1 := hid hr1
            have hn1 : (r1 != r1) = false := by simp
            go_wp2_with fail
            refine (eqA2_same r0 q0 _).mono ?_
            rintro e w7 ⟨rfl, hb⟩
            have hbw7 : Ext w6 w7 := Ext.trans inferInstance hb
            clear hb
            replace x0 := hbw7.cell x0
            replace x1 := hbw7.cell x1
            replace y0 := hbw7.cell y0
            replace y1 := hbw7.cell y1
            replace fx0 := hbw7.cell fx0
            replace fx1 := hbw7.cell fx1
            replace u_0 := hbw7.cell u_0
            replace u_1 := hbw7.cell u_1
            replace v_0 := hbw7.cell v_0
            replace v_1 := hbw7.cell v_1
            replace a0 := a0.ext (w' := w7)
            replace a1 := a1.ext (w' := w7)
            replace a4 := a4.ext (w' := w7)
            replace x_0 := x_0.ext (w' := w7)
            replace x_1 := x_1.ext (w' := w7)
            replace x_4 := x_4.ext (w' := w7)
            replace e1 := Ext.trans e1 hbw7
            go_upto_region 17 with fail
            go_cut [74] (fun q wx => q = .bool false ∧ Ext w7 wx)
            case first =>
              go_region_with (first
                | (go_at_call 12; refine (toProblem_any (w0 := w7) a0).mono ?_; rintro e wq ⟨qd, qm, qvs, qd2, qm2, qvs2, rfl, ql, ql2, qown, hq⟩; have pq := qown.prob' ql ql2 a0; have eq : Ext w7 wq := Ext.trans inferInstance hq; have y0' := eq.cell y0; have y1' := eq.cell y1)
                | (go_at_call 16; refine (eqProblem_any (w0 := wq) x_0.ext pq).mono ?_; rw [heq.out]; rintro e wq2 ⟨rfl, hq2⟩))
              all_goals
                go_wp2_with fail
                go_meet
                exact ⟨rfl, Ext.trans eq hq2⟩
            case rest =>
              obtain ⟨rfl, hbc⟩ := hcut
              have hb : Ext w7 wc := hbc
              clear hbc
              obtain ⟨w8, rfl⟩ : ∃ x : World, x = wc := ⟨_, rfl⟩
              have hbw8 : Ext w7 w8 := Ext.trans inferInstance hb
              clear hb
              replace x0 := hbw8.cell x0
              replace x1 := hbw8.cell x1
              replace y0 := hbw8.cell y0
              replace y1 := hbw8.cell y1
              replace fx0 := hbw8.cell fx0
              replace fx1 := hbw8.cell fx1
              replace u_0 := hbw8.cell u_0
              replace u_1 := hbw8.cell u_1
              replace v_0 := hbw8.cell v_0
              replace v_1 := hbw8.cell v_1
              replace a0 := a0.ext (w' := w8)
              replace a1 := a1.ext (w' := w8)
              replace a4 := a4.ext (w' := w8)
              replace x_0 := x_0.ext (w' := w8)
              replace x_1 := x_1.ext (w' := w8)
              replace x_4 := x_4.ext (w' := w8)
              replace e1 := Ext.trans e1 hbw8
              go_wp2_with fail
              refine (toIntSS_any (w0 := w8) a1).mono ?_
              rintro e w9 ⟨q1_d, q1_m, q1_vs, rfl, q1_l, q1_own, hb⟩
              have q1 := q1_own.readsAll' q1_l a1
              have hbw9 : Ext w8 w9 := Ext.trans inferInstance hb
              clear hb
              replace x0 := hbw9.cell x0
              replace x1 := hbw9.cell x1
              replace y0 := hbw9.cell y0
              replace y1 := hbw9.cell y1
              replace fx0 := hbw9.cell fx0
              replace fx1 := hbw9.cell fx1
              replace u_0 := hbw9.cell u_0
              replace u_1 := hbw9.cell u_1
              replace v_0 := hbw9.cell v_0
              replace v_1 := hbw9.cell v_1
              replace a0 := a0.ext (w' := w9)
              replace a1 := a1.ext (w' := w9)
              replace a4 := a4.ext (w' := w9)
              replace x_0 := x_0.ext (w' := w9)
              replace x_1 := x_1.ext (w' := w9)
              replace x_4 := x_4.ext (w' := w9)
              replace e1 := Ext.trans e1 hbw9
              clear q1_own
              go_wp2_with fail
              refine (eqIntSS_any (w0 := w9) x_1 q1).mono ?_
              rw [heq1.out]
              rintro e w10 ⟨rfl, hdr⟩
              have hb := hdr.ext
              clear hdr
              have hbw10 : Ext w9 w10 := Ext.trans inferInstance hb
              clear hb
              replace x0 := hbw10.cell x0
              replace x1 := hbw10.cell x1
              replace y0 := hbw10.cell y0
              replace y1 := hbw10.cell y1
              replace fx0 := hbw10.cell fx0
              replace fx1 := hbw10.cell fx1
              replace u_0 := hbw10.cell u_0
              replace u_1 := hbw10.cell u_1
              replace v_0 := hbw10.cell v_0
              replace v_1 := hbw10.cell v_1
              replace a0 := a0.ext (w' := w10)
              replace a1 := a1.ext (w' := w10)
              replace a4 := a4.ext (w' := w10)
              replace x_0 := x_0.ext (w' := w10)
              replace x_1 := x_1.ext (w' := w10)
              replace x_4 := x_4.ext (w' := w10)
              replace q1 := q1.ext (w' := w10)
              replace e1 := Ext.trans e1 hbw10
              go_wp2_with fail
              refine (toIntS_any (w0 := w10) a4).mono ?_
              rintro e w11 ⟨q4_d, q4_m, rfl, q4_own, hb⟩
              have q4 := q4_own.reads' a4
              have hbw11 : Ext w10 w11 := Ext.trans inferInstance hb
              clear hb
              replace x0 := hbw11.cell x0
              replace x1 := hbw11.cell x1
              replace y0 := hbw11.cell y0
              replace y1 := hbw11.cell y1
              replace fx0 := hbw11.cell fx0
              replace fx1 := hbw11.cell fx1
              replace u_0 := hbw11.cell u_0
              replace u_1 := hbw11.cell u_1
              replace v_0 := hbw11.cell v_0
              replace v_1 := hbw11.cell v_1
              replace a0 := a0.ext (w' := w11)
              replace a1 := a1.ext (w' := w11)
              replace a4 := a4.ext (w' := w11)
              replace x_0 := x_0.ext (w' := w11)
              replace x_1 := x_1.ext (w' := w11)
              replace x_4 := x_4.ext (w' := w11)
              replace q1 := q1.ext (w' := w11)
              replace e1 := Ext.trans e1 hbw11
              clear q4_own
              go_wp2_with fail
              refine (eqIntS_any (w0 := w11) x_4 q4).mono ?_
              rw [heq4.out]
              rintro e w12 ⟨rfl, hdr⟩
              have hb := hdr.ext
              clear hdr
              have hbw12 : Ext w11 w12 := Ext.trans inferInstance hb
              clear hb
              replace x0 := hbw12.cell x0
              replace x1 := hbw12.cell x1
              replace y0 := hbw12.cell y0
              replace y1 := hbw12.cell y1
              replace fx0 := hbw12.cell fx0
              replace fx1 := hbw12.cell fx1
              replace u_0 := hbw12.cell u_0
              replace u_1 := hbw12.cell u_1
              replace v_0 := hbw12.cell v_0
              replace v_1 := hbw12.cell v_1
              replace a0 := a0.ext (w' := w12)
              replace a1 := a1.ext (w' := w12)
              replace a4 := a4.ext (w' := w12)
              replace x_0 := x_0.ext (w' := w12)
              replace x_1 := x_1.ext (w' := w12)
              replace x_4 := x_4.ext (w' := w12)
              replace q1 := q1.ext (w' := w12)
              replace q4 := q4.ext (w' := w12)
              replace e1 := Ext.trans e1 hbw12
              go_wp2_with fail
              go_ret
              exact ⟨rfl, e1⟩

end Go.Proofs.Ytobfehekjapnhaa
