/- 'laws.FnWorkOptimum': for every code the law returns true. -/
import Derived.Test.YtmgcfnciejfpbaaGreatGrM
import Derived.Test.YtmgcfnciejfpbaaGreatLsI
import Derived.Test.YtmgcfnciejfpbaaGreatLsT
namespace Go.Proofs.YtmgcfnciejfpbaaGreat
open Go.RowKit

/-- what the law asks of the least schedule -/
theorem op_law {M : List (List Int)} {a X : List Int} (h : srvB M a X = true) : smB M a X (lsR M a X) = true ∧ smR M a X (lsR M a X) = lwR M a X ∧ lwR M a X ≤ gsS M a X ∧
    (wlR M a X).length = X.length + 1 ∧ ∀ j, j < (row (wlR M a X) X.length).length → lwR M a X ≤ nth (row (wlR M a X) X.length) j := by
  have h1 := ls_sched h
  have h2 := ls_least h
  obtain ⟨h3, h4⟩ := gs_yes h
  obtain ⟨h5, h6⟩ := gr_sched h
  rw [lsR_yes h, h4, wlR_yes h, wlL_len, wlL_row (Nat.le_refl _)]
  refine ⟨h1.1, h2, by rw [← h6]; exact least_le h5, rfl, fun j hj => ?_⟩
  rw [lwR, if_pos h]
  exact (leastL_min (wl_ne h (Nat.le_refl X.length))).2 _ (nth_mem hj)

set_option maxHeartbeats 3200000 in
set_option maxRecDepth 100000 in
theorem lawFnWorkOptimum_any {v : Value} {nb : Nat} {w : World} (hc : IsBytes w v nb) :
    Calls Tryz.prog 6 #[v] w fun e w' => e = .returned (.bool true) ∧ Ext w w' := by
  have hc' := hc
  obtain ⟨ac, cc, rfl⟩ := hc.form
  by_cases hbig : 65536 < nb
  · have hd := hid (decide_eq_true hbig)
    go_enter Tryz.func6, Tryz.ntmps6
    go_wp2_with fail
    refine (vBig_l hc').mono ?_
    rw [hd.out]
    rintro e w1 ⟨rfl, rfl⟩
    go_wp2_with fail
    go_ret
    exact ⟨rfl, Ext.refl _⟩
  · have hd := hid (decide_eq_false hbig)
    go_enter Tryz.func6, Tryz.ntmps6
    go_wp2_with fail
    refine (vBig_l hc').mono ?_
    rw [hd.out]
    rintro e w1 ⟨rfl, rfl⟩
    go_wp2_with fail
    refine (drawLW_any (w0 := w) (w := w) hc').mono ?_
    rintro e w1 ⟨fM, cM, av, xv, M, a, X, Z, rfl, hMok, hal, hXl, ownZ, hZ, e1⟩
    obtain ⟨hm, ha, hX⟩ := hZ.out _ _ ownZ
    obtain ⟨da, ma, rfl, la⟩ := ha.form
    obtain ⟨dx, mx, rfl, lx⟩ := hX.form
    clear hZ ownZ
    go_upto_region 4 with fail
    have g2 : Ext w1 (w1.alloc (.cells #[.slice fM M.length cM] 26)) := inferInstance
    have x0_2 : (w1.alloc (.cells #[.slice fM M.length cM] 26)).cell? ⟨w1.heap.size, 0, none⟩ = some (.slice fM M.length cM) := by go_simp
    obtain ⟨p, hp⟩ : ∃ r, r = w1.heap.size := ⟨_, rfl⟩
    rw [← hp] at x0_2 ⊢
    replace hp := hid hp
    generalize w1.alloc (.cells #[.slice fM M.length cM] 26) = w2 at *
    obtain ⟨K, hK⟩ : ∃ q, q = lwR M a X := ⟨_, rfl⟩
    obtain ⟨Q, hQ⟩ : ∃ q, q = srvB M a X := ⟨_, rfl⟩
    obtain ⟨T, hT⟩ : ∃ q, q = lsR M a X := ⟨_, rfl⟩
    replace hK := hid hK
    replace hQ := hid hQ
    replace hT := hid hT
    go_wp2_with fail
    with_reducible refine (implLeast_any (w0 := w1) (w := w2) hm ha hX).mono ?_
    rw [← hK.out, ← hQ.out]
    rintro e w3 ⟨rfl, e3⟩
    have x0_3 := e3.cell x0_2
    have g3 : Ext w1 w3 := Ext.trans g2 e3
    clear x0_2
    go_wp2_with fail
    with_reducible refine (specLeast_any (w0 := w1) (w := w3) hm ha hX).mono ?_
    rw [← hK.out, ← hQ.out]
    rintro e w4 ⟨rfl, e4⟩
    have x0_4 := e4.cell x0_3
    have g4 : Ext w1 w4 := Ext.trans g3 e4
    clear x0_3
    go_wp2_with fail
    with_reducible refine (implLs_any (w0 := w1) (w := w4) hm ha hX).mono ?_
    rw [← hQ.out, ← hT.out]
    rintro e w5 ⟨u5, rfl, hT5, e5⟩
    have x0_5 := e5.cell x0_4
    have g5 : Ext w1 w5 := Ext.trans g4 e5
    obtain ⟨d5, m5, rfl, l5⟩ := hT5.form
    clear x0_4
    go_wp2_with fail
    with_reducible refine (specLs_any (w0 := w1) (w := w5) hm ha hX).mono ?_
    rw [← hQ.out, ← hT.out]
    rintro e w6 ⟨u6, rfl, hT6, e6⟩
    have x0_6 := e6.cell x0_5
    have g6 : Ext w1 w6 := Ext.trans g5 e6
    obtain ⟨d6, m6, rfl, l6⟩ := hT6.form
    have hT56 := hT5.ext (w' := w6)
    clear x0_5
    have hQQ : (Q != Q) = false := by simp
    have hKK : (K != K) = false := by simp
    go_wp2_with fail
    with_reducible refine (vTable_l (w0 := w6) (w := w6) hT56 hT6).mono ?_
    rintro e w7 ⟨rfl, e7⟩
    have x0_7 := e7.cell x0_6
    have g7 : Ext w1 w7 := Ext.trans g6 e7
    have hT7 := hT56.ext (w' := w7)
    clear x0_6 hT5 hT56 hT6 hQQ
    cases Q with
    | false =>
      go_wp2_with fail
      go_ret
      exact ⟨rfl, Ext.trans e1 g7⟩
    | true =>
      obtain ⟨hg1, hg2, hg3, hg4, hg5⟩ := op_law hQ.out.symm
      rw [← hT.out, ← hK.out] at hg2
      rw [← hT.out] at hg1
      rw [← hK.out] at hg3
      replace hg1 := hid hg1
      replace hg2 := hid hg2
      have hm7 := hm.ext (w' := w7)
      have ha7 := ha.ext (w' := w7)
      have hX7 := hX.ext (w' := w7)
      go_wp2_with fail
      with_reducible refine (implSM_any (w0 := w7) (w := w7) hm7 ha7 hX7 hT7).mono ?_
      rw [hg1.out, hg2.out]
      rintro e w8 ⟨rfl, e8⟩
      have x0_8 := e8.cell x0_7
      clear x0_7
      obtain ⟨S, hSd⟩ : ∃ q, q = gsS M a X := ⟨_, rfl⟩
      rw [← hSd] at hg3
      replace hSd := hid hSd
      go_wp2_with fail
      with_reducible refine (implGs_any (w0 := w7) (w := w8) hm7 ha7 hX7).mono ?_
      rw [← hQ.out, ← hSd.out]
      rintro e w9 ⟨u9, rfl, _, e9⟩
      have x0_9 := e9.cell x0_8
      have g79 : Ext w7 w9 := Ext.trans e8 e9
      clear x0_8
      go_wp2_with fail
      with_reducible refine (implLists_any (w0 := w7) (w := w9) hm7 ha7 hX7).mono ?_
      rw [← hQ.out]
      rintro e w10 ⟨u10, rfl, hL, e10⟩
      have x0_10 := e10.cell x0_9
      have g710 : Ext w7 w10 := Ext.trans g79 e10
      clear x0_9
      obtain ⟨dL, mL, rfl, lL⟩ := hL.form
      obtain ⟨L, hLd⟩ : ∃ q, q = wlR M a X := ⟨_, rfl⟩
      rw [← hLd] at hL hg4 hg5 ⊢
      replace hLd := hid hLd
      obtain ⟨bL, oL, dl, ml, rfl, hcl, hil, hEl⟩ := hL.at (w' := w10) (k := X.length) (by rw [hg4]; omega)
      have hXL : X.length < L.length := by rw [hg4]; omega
      obtain ⟨E, hE⟩ : ∃ q, q = row L X.length := ⟨_, rfl⟩
      rw [← hE] at hcl hil hg5 hEl
      replace hE := hid hE
      rw [← hK.out] at hg5
      replace hg5 := hid hg5
      replace hg4 := hid hg4
      have hge : decide (K ≤ S) = true := decide_eq_true hg3
      have hKe : (K == K) = true := by simp
      clear hm7 ha7 hX7 hT7 x0_10
      go_wp2_with fail
      go_loopw [22] (fun i wr => ∃ t : Nat, t ≤ E.length ∧ i = .int .i64 t ∧ Ext w10 wr) (fun i _ => E.length - (intOf i).toNat)
      case atStart => exact ⟨0, by omega, rfl, Ext.refl _⟩
      case round =>
        obtain ⟨t, ht, rfl, hy⟩ := hrel
        obtain ⟨wq, rfl⟩ : ∃ y : World, y = wr := ⟨_, rfl⟩
        by_cases hlt : t < E.length
        · obtain ⟨bE, oE, rfl, hcE⟩ := hil.at (w' := wq) hlt
          have hlo := hg5.out t hlt
          have hdec : decide (nth E t < K) = false := decide_eq_false (by omega)
          generalize nth E t = y at *
          go_wp2_with fail
          go_roundw
          case rel => exact ⟨t + 1, by omega, by go_num, hy⟩
          case measure => simp [intOf]; omega
        · go_wp2_with fail
          go_ret
          exact ⟨rfl, Ext.trans e1 (Ext.trans g7 (Ext.trans g710 hy))⟩
end Go.Proofs.YtmgcfnciejfpbaaGreat
