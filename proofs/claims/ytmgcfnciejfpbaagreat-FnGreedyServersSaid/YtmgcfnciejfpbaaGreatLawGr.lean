/- 'laws.FnGreedyServers': for every code the law returns true. -/
import Derived.Test.YtmgcfnciejfpbaaGreatMtJ
import Derived.Test.YtmgcfnciejfpbaaGreatMtI
import Derived.Test.YtmgcfnciejfpbaaGreatGs
import Derived.Test.YtmgcfnciejfpbaaGreatGrM
namespace Go.Proofs.YtmgcfnciejfpbaaGreat
open Go.RowKit

/-- what the law asks of the greedy schedule -/
theorem gs_law {M : List (List Int)} {a X : List Int} (h : srvB M a X = true) : smB M a X (gsT M a X) = true ∧ smR M a X (gsT M a X) = gsS M a X ∧ lwR M a X ≤ gsS M a X := by
  obtain ⟨h1, h2⟩ := gs_yes h
  obtain ⟨h3, h4⟩ := gr_sched h
  rw [h1, h2]
  refine ⟨h3, h4, ?_⟩
  rw [← h4]
  exact least_le h3

set_option maxHeartbeats 3200000 in
set_option maxRecDepth 100000 in
theorem lawFnGreedyServers_any {v : Value} {nb : Nat} {w : World} (hc : IsBytes w v nb) :
    Calls Tryz.prog 5 #[v] w fun e w' => e = .returned (.bool true) ∧ Ext w w' := by
  have hc' := hc
  obtain ⟨ac, cc, rfl⟩ := hc.form
  by_cases hbig : 65536 < nb
  · have hd := hid (decide_eq_true hbig)
    go_enter Tryz.func5, Tryz.ntmps5
    go_wp2_with fail
    refine (rBig_l hc').mono ?_
    rw [hd.out]
    rintro e w1 ⟨rfl, rfl⟩
    go_wp2_with fail
    go_ret
    exact ⟨rfl, Ext.refl _⟩
  · have hd := hid (decide_eq_false hbig)
    go_enter Tryz.func5, Tryz.ntmps5
    go_wp2_with fail
    refine (rBig_l hc').mono ?_
    rw [hd.out]
    rintro e w1 ⟨rfl, rfl⟩
    go_wp2_with fail
    refine (drawGS_any (w0 := w) (w := w) hc').mono ?_
    rintro e w1 ⟨fM, cM, av, xv, M, a, X, Z, rfl, hMok, hal, hXl, ownZ, hZ, e1⟩
    obtain ⟨hm, ha, hX⟩ := hZ.out _ _ ownZ
    obtain ⟨da, ma, rfl, la⟩ := ha.form
    obtain ⟨dx, mx, rfl, lx⟩ := hX.form
    clear hZ ownZ
    go_upto_region 4 with fail
    have g2 : Ext w1 (w1.alloc (.cells #[.slice fM M.length cM] 26)) := inferInstance
    have x0_2 : (w1.alloc (.cells #[.slice fM M.length cM] 26)).cell? ⟨w1.heap.size, 0, none⟩ = some (.slice fM M.length cM) := by go_simp
    obtain ⟨p, hp⟩ : ∃ r, r = w1.heap.size := ⟨_, rfl⟩
    rw [← hp] at x0_2 ⊢
    replace hp := hid hp
    generalize w1.alloc (.cells #[.slice fM M.length cM] 26) = w2 at *
    obtain ⟨S, hSd⟩ : ∃ q, q = gsS M a X := ⟨_, rfl⟩
    obtain ⟨Q, hQ⟩ : ∃ q, q = srvB M a X := ⟨_, rfl⟩
    obtain ⟨T, hT⟩ : ∃ q, q = gsT M a X := ⟨_, rfl⟩
    replace hSd := hid hSd
    replace hQ := hid hQ
    replace hT := hid hT
    go_wp2_with fail
    with_reducible refine (implGs_any (w0 := w1) (w := w2) hm ha hX).mono ?_
    rw [← hSd.out, ← hQ.out, ← hT.out]
    rintro e w3 ⟨u3, rfl, hT3, e3⟩
    have x0_3 := e3.cell x0_2
    have g3 : Ext w1 w3 := Ext.trans g2 e3
    obtain ⟨d3, m3, rfl, l3⟩ := hT3.form
    clear x0_2
    go_wp2_with fail
    with_reducible refine (specGs_any (w0 := w1) (w := w3) hm ha hX).mono ?_
    rw [← hSd.out, ← hQ.out, ← hT.out]
    rintro e w4 ⟨u4, rfl, hT4, e4⟩
    have x0_4 := e4.cell x0_3
    have g4 : Ext w1 w4 := Ext.trans g3 e4
    obtain ⟨d4, m4, rfl, l4⟩ := hT4.form
    have hT34 := hT3.ext (w' := w4)
    clear x0_3
    have hQQ : (Q != Q) = false := by simp
    have hSS : (S != S) = false := by simp
    go_wp2_with fail
    with_reducible refine (rTable_l (w0 := w4) (w := w4) hT34 hT4).mono ?_
    rintro e w5 ⟨rfl, e5⟩
    have x0_5 := e5.cell x0_4
    have g5 : Ext w1 w5 := Ext.trans g4 e5
    have hT5 := hT34.ext (w' := w5)
    clear x0_4 hT3 hT34 hT4 hQQ
    cases Q with
    | false =>
      go_wp2_with fail
      go_ret
      exact ⟨rfl, Ext.trans e1 g5⟩
    | true =>
      obtain ⟨hg1, hg2, hg3⟩ := gs_law hQ.out.symm
      rw [← hT.out, ← hSd.out] at hg2
      rw [← hT.out] at hg1
      rw [← hSd.out] at hg3
      replace hg1 := hid hg1
      replace hg2 := hid hg2
      have hm5 := hm.ext (w' := w5)
      have ha5 := ha.ext (w' := w5)
      have hX5 := hX.ext (w' := w5)
      go_wp2_with fail
      with_reducible refine (implSM_any (w0 := w5) (w := w5) hm5 ha5 hX5 hT5).mono ?_
      rw [hg1.out, hg2.out]
      rintro e w6 ⟨rfl, e6⟩
      have x0_6 := e6.cell x0_5
      clear x0_5
      obtain ⟨K, hK⟩ : ∃ q, q = lwR M a X := ⟨_, rfl⟩
      rw [← hK] at hg3
      replace hK := hid hK
      go_wp2_with fail
      with_reducible refine (implLeast_any (w0 := w5) (w := w6) hm5 ha5 hX5).mono ?_
      rw [← hQ.out, ← hK.out]
      rintro e w7 ⟨rfl, e7⟩
      have x0_7 := e7.cell x0_6
      have g57 : Ext w5 w7 := Ext.trans e6 e7
      clear x0_6
      go_wp2_with fail
      with_reducible refine (specLeast_any (w0 := w5) (w := w7) hm5 ha5 hX5).mono ?_
      rw [← hQ.out, ← hK.out]
      rintro e w8 ⟨rfl, e8⟩
      have g58 : Ext w5 w8 := Ext.trans g57 e8
      have hKK : (K != K) = false := by simp
      have eA : Ext w w8 := Ext.trans e1 (Ext.trans g5 g58)
      have hle : decide (K ≤ S) = true := decide_eq_true hg3
      have hSe : (S == S) = true := by simp
      clear hm5 ha5 hX5 hT5 x0_7
      go_wp2_with fail
      refine (drawSM_any (w0 := w) (w := w8) hc').mono ?_
      rintro e w9 ⟨fN, cN, bv, yv, zv, N, b, Y, C, rfl, hn, hb, hY, hC, hNok, hbl, hYl, e9⟩
      obtain ⟨db, mb, rfl, lb⟩ := hb.form
      obtain ⟨dy, my, rfl, ly⟩ := hY.form
      obtain ⟨dz, mz, rfl, lz⟩ := hC.form
      go_upto_region 16 with fail
      have k2 : Ext w9 (w9.alloc (.cells #[.slice fN N.length cN] 26)) := inferInstance
      have y0_2 : (w9.alloc (.cells #[.slice fN N.length cN] 26)).cell? ⟨w9.heap.size, 0, none⟩ = some (.slice fN N.length cN) := by go_simp
      obtain ⟨q, hq⟩ : ∃ r, r = w9.heap.size := ⟨_, rfl⟩
      rw [← hq] at y0_2 ⊢
      replace hq := hid hq
      generalize w9.alloc (.cells #[.slice fN N.length cN] 26) = w10 at *
      obtain ⟨U, hU⟩ : ∃ q, q = smR N b Y C := ⟨_, rfl⟩
      obtain ⟨J, hJ⟩ : ∃ q, q = smB N b Y C := ⟨_, rfl⟩
      replace hU := hid hU
      replace hJ := hid hJ
      go_wp2_with fail
      with_reducible refine (implSM_any (w0 := w9) (w := w10) hn hb hY hC).mono ?_
      rw [← hU.out, ← hJ.out]
      rintro e w11 ⟨rfl, e11⟩
      have y0_3 := e11.cell y0_2
      have k3 : Ext w9 w11 := Ext.trans k2 e11
      clear y0_2
      go_wp2_with fail
      with_reducible refine (specSM_any (w0 := w9) (w := w11) hn hb hY hC).mono ?_
      rw [← hU.out, ← hJ.out]
      rintro e w12 ⟨rfl, e12⟩
      have y0_4 := e12.cell y0_3
      have k4 : Ext w9 w12 := Ext.trans k3 e12
      clear y0_3
      have hUU : (U != U) = false := by simp
      have hJJ : (J != J) = false := by simp
      cases J with
      | false =>
        go_wp2_with fail
        go_ret
        exact ⟨rfl, Ext.trans eA (Ext.trans e9 k4)⟩
      | true =>
        have hsb := hJ.out.symm
        have hll := least_le hsb
        have hsv := hid (smB_iff.1 hsb).1
        obtain ⟨V, hV⟩ : ∃ q, q = lwR N b Y := ⟨_, rfl⟩
        rw [← hV, ← hU.out] at hll
        replace hV := hid hV
        clear hsb
        have hgt : decide (U < V) = false := decide_eq_false (by omega)
        go_wp2_with fail
        with_reducible refine (implLeast_any (w0 := w9) (w := w12) hn hb hY).mono ?_
        rw [hsv.out, ← hV.out]
        rintro e w13 ⟨rfl, e13⟩
        go_wp2_with fail
        go_ret
        exact ⟨rfl, Ext.trans eA (Ext.trans e9 (Ext.trans k4 e13))⟩
end Go.Proofs.YtmgcfnciejfpbaaGreat
