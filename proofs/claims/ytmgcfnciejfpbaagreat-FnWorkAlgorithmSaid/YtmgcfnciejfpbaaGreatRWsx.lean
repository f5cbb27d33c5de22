/- WorkServe of the reference and of the program: the functions. -/
import Derived.Test.YtmgcfnciejfpbaaGreatRWsv
namespace Go.Proofs.YtmgcfnciejfpbaaGreat
open Go.RowKit

def wsvB (M : List (List Int)) (k : Int) (ws a : List Int) (r : Int) : Bool := stB M k ws r && (cfgB M.length a && decide ((a.length : Int) = k))
def wsvC (M : List (List Int)) (k : Int) (ws a : List Int) (r : Int) : List Int := if wsvB M k ws a r then svC M (confs M.length k.toNat 0) (wnxL M (confs M.length k.toNat 0) ws r) a r else []
def wsvK (M : List (List Int)) (k : Int) (ws a : List Int) (r : Int) : Int := if wsvB M k ws a r then svK M (confs M.length k.toNat 0) (wnxL M (confs M.length k.toNat 0) ws r) a r else 0
theorem wsv_no {M : List (List Int)} {k r : Int} {ws a : List Int} (h : wsvB M k ws a r = false) : wsvC M k ws a r = [] ∧ wsvK M k ws a r = 0 ∧ wsvB M k ws a r = false := by simp [wsvC, wsvK, h]
theorem wsv_yes {M : List (List Int)} {k r : Int} {ws a : List Int} (h : wsvB M k ws a r = true) : wsvC M k ws a r = svC M (confs M.length k.toNat 0) (wnxL M (confs M.length k.toNat 0) ws r) a r ∧ wsvK M k ws a r = svK M (confs M.length k.toNat 0) (wnxL M (confs M.length k.toNat 0) ws r) a r ∧ wsvB M k ws a r = true := by simp [wsvC, wsvK, h]
set_option maxHeartbeats 1600000 in
set_option maxRecDepth 100000 in
theorem specWsv_any {v vw va : Value} {M : List (List Int)} {ws a : List Int} {k r : Int} {w0 w : World} [Ext w0 w] (hm : IsMet w0 v M) (_hk : I64 k) (hw : IsInts w0 vw ws) (ha : IsInts w0 va a) (_hr : I64 r) :
    Calls Tryz.prog 49 #[v, .int .i64 k, vw, va, .int .i64 r] w fun e w' => ∃ d0 m0, e = .returned (.tuple #[.slice d0 (wsvC M k ws a r).length m0, .int .i64 (wsvK M k ws a r), .bool (wsvB M k ws a r)]) ∧ IsInts w' (.slice d0 (wsvC M k ws a r).length m0) (wsvC M k ws a r) ∧ Ext w w' := by
  have hm' := hm
  obtain ⟨v1, rfl, hR⟩ := hm
  obtain ⟨a1, c1, rfl, l1⟩ := hR.form
  have hw' := hw
  obtain ⟨dw, mw, rfl, lw⟩ := hw.form
  have ha' := ha
  obtain ⟨da, ma, rfl, la⟩ := ha.form
  have x0 : (w.alloc (.cells #[.slice a1 M.length c1] 26)).cell? ⟨w.heap.size, 0, none⟩ = some (.slice a1 M.length c1) := by go_simp
  cases hG : givB M k ws r with
  | false =>
    have hr := hid (wsv_no (show wsvB M k ws a r = false by simp [wsvB, stB, hG]))
    replace hG := hid hG
    go_enter Tryz.func49, Tryz.ntmps49
    go_wp2_with fail
    with_reducible refine (l7Given_any (w0 := w0) hm' hw').mono ?_
    rw [hG.out]
    rintro e w1 ⟨rfl, e1⟩
    go_wp2_with fail
    go_ret3
    rw [hr.out.1, hr.out.2.1, hr.out.2.2]
    exact ⟨_, _, rfl, isInts_zero _ _ _, Ext.trans inferInstance (Ext.trans e1 inferInstance)⟩
  | true =>
    obtain ⟨hM, hk, hrr, hwb⟩ := giv_parts hG
    obtain ⟨kn, rfl⟩ := Int.eq_ofNat_of_zero_le (show 0 ≤ k by omega)
    rw [Int.toNat_natCast] at hwb
    have hkn : kn ≤ 3 := by omega
    have hk1n : 1 ≤ kn := by omega
    have hg := hid (work_good hwb)
    have hgn := hid (wnx_good (dst_of_met hM) hk1n hkn hg.out (by omega) hrr).1
    have hM' := hid hM
    have hrr' := hid hrr
    have hGt := hid hG
    have hMl := met_len hM
    have h216 := confs_216 hMl.2 hkn
    have hnl := hid (show (wnxL M (confs M.length kn 0) ws r).length = (confs M.length kn 0).length by rw [wnxL_len]; exact hg.out.1.1)
    clear hM hrr hwb
    replace hG := hid hG
    by_cases hl : a.length = kn
    · have hn : ((a.length : Int) != (kn : Int)) = false := by simp [hl]
      have hl' := hid hl
      clear hl
      cases hc : cfgB M.length a with
      | false =>
        have hr := hid (wsv_no (show wsvB M kn ws a r = false by simp [wsvB, hc]))
        replace hc := hid hc
        go_enter Tryz.func49, Tryz.ntmps49
        go_wp2_with fail
        with_reducible refine (l7Given_any (w0 := w0) hm' hw').mono ?_
        rw [hG.out]
        rintro e w1 ⟨rfl, e1⟩
        have x1 := e1.cell x0
        have e1w : Ext w w1 := Ext.trans inferInstance e1
        have e01 : Ext w0 w1 := Ext.trans ‹Ext w0 w› e1w
        clear x0 e1
        go_wp2_with fail
        with_reducible refine (l6Config_any (w0 := w0) ha' (by omega)).mono ?_
        rw [hc.out]
        rintro e w2 ⟨rfl, e2⟩
        go_wp2_with fail
        go_ret3
        rw [hr.out.1, hr.out.2.1, hr.out.2.2]
        exact ⟨_, _, rfl, isInts_zero _ _ _, Ext.trans e1w (Ext.trans e2 inferInstance)⟩
      | true =>
        have hac := hid (cfg_conf hc hl'.out)
        cases hb : belowB 100000 (wnxL M (confs M.length kn 0) ws r) with
        | false =>
          have hr := hid (wsv_no (show wsvB M kn ws a r = false by simp [wsvB, stB, hb]))
          have hgt := hid (grtL_below (xs := wnxL M (confs M.length kn 0) ws r) (fun x hx => by
            obtain ⟨j, hj, rfl⟩ := mem_iff_nth.1 hx
            exact (hgn.out.2 j (by rw [← hnl.out]; exact hj)).1))
          rw [hb] at hgt
          have hgt2 : decide (99999 < grtL (wnxL M (confs M.length kn 0) ws r)) = true := hgt.out
          clear hgt
          replace hc := hid hc
          replace hb := hid hb
          go_enter Tryz.func49, Tryz.ntmps49
          go_wp2_with fail
          with_reducible refine (l7Given_any (w0 := w0) hm' hw').mono ?_
          rw [hG.out]
          rintro e w1 ⟨rfl, e1⟩
          have x1 := e1.cell x0
          have e1w : Ext w w1 := Ext.trans inferInstance e1
          have e01 : Ext w0 w1 := Ext.trans ‹Ext w0 w› e1w
          clear x0 e1
          go_wp2_with fail
          with_reducible refine (l6Config_any (w0 := w0) ha' (by omega)).mono ?_
          rw [hc.out]
          rintro e w2 ⟨rfl, e2⟩
          have x2 := e2.cell x1
          have e2w : Ext w w2 := Ext.trans e1w e2
          have e02 : Ext w0 w2 := Ext.trans ‹Ext w0 w› e2w
          clear x1 e1w e2
          go_wp2_with fail
          with_reducible refine (l7Next_any (w0 := w0) hm' hM'.out hw' hk1n hkn hg.out (by omega) hrr'.out).mono ?_
          rintro e w3 ⟨u, rfl, hX, e3⟩
          generalize wnxL M (confs M.length kn 0) ws r = X at *
          go_wp2_with fail
          with_reducible refine (l7Greatest_any (w0 := w3) (w := w3) hX).mono ?_
          rintro e w4 ⟨rfl, rfl⟩
          go_wp2_with fail
          go_ret3
          rw [hr.out.1, hr.out.2.1, hr.out.2.2]
          exact ⟨_, _, rfl, isInts_zero _ _ _, Ext.trans e2w (Ext.trans e3 inferInstance)⟩
        | true =>
          have hr := hid (wsv_yes (show wsvB M kn ws a r = true by simp [wsvB, stB, hb, hc, hl'.out, hGt.out]))
          rw [Int.toNat_natCast] at hr
          have hgt := hid (grtL_below (xs := wnxL M (confs M.length kn 0) ws r) (fun x hx => by
            obtain ⟨j, hj, rfl⟩ := mem_iff_nth.1 hx
            exact (hgn.out.2 j (by rw [← hnl.out]; exact hj)).1))
          rw [hb] at hgt
          have hgt2 : decide (99999 < grtL (wnxL M (confs M.length kn 0) ws r)) = false := hgt.out
          clear hgt
          replace hc := hid hc
          replace hb := hid hb
          go_enter Tryz.func49, Tryz.ntmps49
          go_wp2_with fail
          with_reducible refine (l7Given_any (w0 := w0) hm' hw').mono ?_
          rw [hG.out]
          rintro e w1 ⟨rfl, e1⟩
          have x1 := e1.cell x0
          have e1w : Ext w w1 := Ext.trans inferInstance e1
          have e01 : Ext w0 w1 := Ext.trans ‹Ext w0 w› e1w
          clear x0 e1
          go_wp2_with fail
          with_reducible refine (l6Config_any (w0 := w0) ha' (by omega)).mono ?_
          rw [hc.out]
          rintro e w2 ⟨rfl, e2⟩
          have x2 := e2.cell x1
          have e2w : Ext w w2 := Ext.trans e1w e2
          have e02 : Ext w0 w2 := Ext.trans ‹Ext w0 w› e2w
          clear x1 e1w e2
          go_wp2_with fail
          with_reducible refine (l7Next_any (w0 := w0) hm' hM'.out hw' hk1n hkn hg.out (by omega) hrr'.out).mono ?_
          rintro e w3 ⟨u, rfl, hX, e3⟩
          have x3 := e3.cell x2
          have e3w : Ext w w3 := Ext.trans e2w e3
          have e03 : Ext w0 w3 := Ext.trans ‹Ext w0 w› e3w
          clear x2
          generalize wnxL M (confs M.length kn 0) ws r = X at *
          go_wp2_with fail
          with_reducible refine (l7Greatest_any (w0 := w3) (w := w3) hX).mono ?_
          rintro e w4 ⟨rfl, rfl⟩
          go_wp2_with fail
          with_reducible refine (l7Serve_any (w0 := w3) (w := w3) (hm'.ext (w' := w3)) hM'.out hX (ha'.ext (w' := w3)) hk1n hkn hac.out hgn.out (by omega) hrr'.out).mono ?_
          rintro e w5 ⟨u5, rfl, hU, e5⟩
          obtain ⟨d5, m5, rfl, l5⟩ := hU.form
          go_wp2_with fail
          go_ret3
          rw [hr.out.1, hr.out.2.1, hr.out.2.2]
          exact ⟨_, _, rfl, hU, Ext.trans e3w e5⟩
    · have hn : ((a.length : Int) != (kn : Int)) = true := by simp; omega
      have hr := hid (wsv_no (show wsvB M kn ws a r = false by simp [wsvB]; intro _ _; omega))
      replace hl := hid hl
      go_enter Tryz.func49, Tryz.ntmps49
      go_wp2_with fail
      with_reducible refine (l7Given_any (w0 := w0) hm' hw').mono ?_
      rw [hG.out]
      rintro e w1 ⟨rfl, e1⟩
      go_wp2_with fail
      go_ret3
      rw [hr.out.1, hr.out.2.1, hr.out.2.2]
      exact ⟨_, _, rfl, isInts_zero _ _ _, Ext.trans inferInstance (Ext.trans e1 inferInstance)⟩
set_option maxHeartbeats 1600000 in
set_option maxRecDepth 100000 in
theorem implWsv_any {v vw va : Value} {M : List (List Int)} {ws a : List Int} {k r : Int} {w0 w : World} [Ext w0 w] (hm : IsMet w0 v M) (_hk : I64 k) (hw : IsInts w0 vw ws) (ha : IsInts w0 va a) (_hr : I64 r) :
    Calls Tryz.prog 48 #[v, .int .i64 k, vw, va, .int .i64 r] w fun e w' => ∃ d0 m0, e = .returned (.tuple #[.slice d0 (wsvC M k ws a r).length m0, .int .i64 (wsvK M k ws a r), .bool (wsvB M k ws a r)]) ∧ Own w' w.heap.size [intRowOf 3 (.slice d0 (wsvC M k ws a r).length m0) (wsvC M k ws a r)] ∧ Ext w w' := by
  have hm' := hm
  obtain ⟨v1, rfl, hR⟩ := hm
  obtain ⟨a1, c1, rfl, l1⟩ := hR.form
  have hw' := hw
  obtain ⟨dw, mw, rfl, lw⟩ := hw.form
  have ha' := ha
  obtain ⟨da, ma, rfl, la⟩ := ha.form
  have x0 : (w.alloc (.cells #[.slice a1 M.length c1] 26)).cell? ⟨w.heap.size, 0, none⟩ = some (.slice a1 M.length c1) := by go_simp
  cases hS : stB M k ws r with
  | false =>
    have hr := hid (wsv_no (show wsvB M k ws a r = false by simp [wsvB, hS]))
    replace hS := hid hS
    go_enter Tryz.func48, Tryz.ntmps48
    go_wp2_with fail
    with_reducible refine (stepWork_any (w0 := w0) hm' hw').mono ?_
    rw [hS.out]
    rintro e w1 ⟨u, rfl, _, e1⟩
    go_wp2_with fail
    go_ret3
    rw [hr.out.1, hr.out.2.1, hr.out.2.2]
    exact ⟨_, _, rfl, (Own.nil _ _).cons_nil _ _, Ext.trans inferInstance e1⟩
  | true =>
    have hG : givB M k ws r = true := by
      simp only [stB, Bool.and_eq_true] at hS
      exact hS.1
    obtain ⟨hM, hk, hrr, hwb⟩ := giv_parts hG
    obtain ⟨kn, rfl⟩ := Int.eq_ofNat_of_zero_le (show 0 ≤ k by omega)
    rw [Int.toNat_natCast] at hwb
    have hkn : kn ≤ 3 := by omega
    have hk1n : 1 ≤ kn := by omega
    have hg := hid (work_good hwb)
    have hgn := hid (wnx_good (dst_of_met hM) hk1n hkn hg.out (by omega) hrr).1
    have hM' := hid hM
    have hrr' := hid hrr
    have hstl := hid (show stL M kn ws r = wnxL M (confs M.length kn 0) ws r by rw [stL, hS]; rfl)
    have hSt := hid hS
    clear hM hrr hwb hG
    replace hS := hid hS
    cases hc : cfgB M.length a with
    | false =>
      have hr := hid (wsv_no (show wsvB M kn ws a r = false by simp [wsvB, hc]))
      replace hc := hid hc
      go_enter Tryz.func48, Tryz.ntmps48
      go_wp2_with fail
      with_reducible refine (stepWork_any (w0 := w0) hm' hw').mono ?_
      rw [hS.out]
      rintro e w1 ⟨u, rfl, _, e1⟩
      have x1 := e1.cell x0
      have e1w : Ext w w1 := Ext.trans inferInstance e1
      have e01 : Ext w0 w1 := Ext.trans ‹Ext w0 w› e1w
      clear x0 e1
      go_wp2_with fail
      with_reducible refine (isConfig_any (w0 := w0) hm' ha' (by omega)).mono ?_
      rw [hc.out]
      rintro e w2 ⟨rfl, e2⟩
      go_wp2_with fail
      go_ret3
      rw [hr.out.1, hr.out.2.1, hr.out.2.2]
      exact ⟨_, _, rfl, (Own.nil _ _).cons_nil _ _, Ext.trans e1w e2⟩
    | true =>
      by_cases hl : a.length = kn
      · have hn : ((a.length : Int) != (kn : Int)) = false := by simp [hl]
        have hac := hid (cfg_conf hc hl)
        have hr := hid (wsv_yes (show wsvB M kn ws a r = true by simp [wsvB, hc, hl, hSt.out]))
        rw [Int.toNat_natCast] at hr
        replace hl := hid hl
        replace hc := hid hc
        go_enter Tryz.func48, Tryz.ntmps48
        go_wp2_with fail
        with_reducible refine (stepWork_any (w0 := w0) hm' hw').mono ?_
        rw [hS.out, hstl.out]
        rintro e w1 ⟨u, rfl, hX, e1⟩
        have x1 := e1.cell x0
        have e1w : Ext w w1 := Ext.trans inferInstance e1
        have e01 : Ext w0 w1 := Ext.trans ‹Ext w0 w› e1w
        clear x0 e1
        obtain ⟨dX, mX, rfl, lX⟩ := hX.form
        have hX' := hX
        clear hX
        generalize wnxL M (confs M.length kn 0) ws r = X at *
        go_wp2_with fail
        with_reducible refine (isConfig_any (w0 := w0) hm' ha' (by omega)).mono ?_
        rw [hc.out]
        rintro e w2 ⟨rfl, e2⟩
        have x2 := e2.cell x1
        have e2w : Ext w w2 := Ext.trans e1w e2
        have e02 : Ext w0 w2 := Ext.trans ‹Ext w0 w› e2w
        have hX2 := hX'.ext (w' := w2)
        clear x1
        go_wp2_with fail
        with_reducible refine (worksOf_any (w0 := w0) hm' hM'.out hk1n hkn).mono ?_
        rintro e w3 ⟨u3, rfl, hW, e3⟩
        have e3w : Ext w w3 := Ext.trans e2w e3
        have e03 : Ext w0 w3 := Ext.trans ‹Ext w0 w› e3w
        have hX3 := hX2.ext (w' := w3)
        have ha3 := ha'.ext (w' := w3)
        go_wp2_with fail
        with_reducible refine (serve_any (w0 := w3) (w := w3) hW hM'.out hX3 ha3 hk1n hkn hac.out hgn.out (by omega) hrr'.out).mono ?_
        rintro e w5 ⟨u5, rfl, own5, e5⟩
        obtain ⟨d5, m5, hu5⟩ := own5.form
        replace hu5 : u5 = .slice d5 (svC M (confs M.length kn 0) X a r).length m5 := hu5
        subst hu5
        go_wp2_with fail
        go_ret3
        rw [hr.out.1, hr.out.2.1, hr.out.2.2]
        exact ⟨_, _, rfl, own5.mono e3w.size, Ext.trans e3w e5⟩
      · have hn : ((a.length : Int) != (kn : Int)) = true := by simp; omega
        have hr := hid (wsv_no (show wsvB M kn ws a r = false by simp [wsvB]; intro _ _; omega))
        replace hl := hid hl
        replace hc := hid hc
        go_enter Tryz.func48, Tryz.ntmps48
        go_wp2_with fail
        with_reducible refine (stepWork_any (w0 := w0) hm' hw').mono ?_
        rw [hS.out]
        rintro e w1 ⟨u, rfl, _, e1⟩
        have x1 := e1.cell x0
        have e1w : Ext w w1 := Ext.trans inferInstance e1
        have e01 : Ext w0 w1 := Ext.trans ‹Ext w0 w› e1w
        clear x0 e1
        go_wp2_with fail
        with_reducible refine (isConfig_any (w0 := w0) hm' ha' (by omega)).mono ?_
        rw [hc.out]
        rintro e w2 ⟨rfl, e2⟩
        go_wp2_with fail
        go_ret3
        rw [hr.out.1, hr.out.2.1, hr.out.2.2]
        exact ⟨_, _, rfl, (Own.nil _ _).cons_nil _ _, Ext.trans e1w e2⟩
end Go.Proofs.YtmgcfnciejfpbaaGreat
