/- The least schedule, the reference's, whole. -/
import Derived.Test.YtmgcfnciejfpbaaGreatLsS
namespace Go.Proofs.YtmgcfnciejfpbaaGreat
open Go.RowKit

set_option maxHeartbeats 3200000 in
set_option maxRecDepth 100000 in
theorem specLs_any {v va vX : Value} {M : List (List Int)} {a X : List Int} {w0 w : World} [Ext w0 w] (hm : IsMet w0 v M) (ha : IsInts w0 va a) (hXi : IsInts w0 vX X) :
    Calls Tryz.prog 46 #[v, va, vX] w fun e w' => ∃ u, e = .returned (.tuple #[u, .bool (srvB M a X)]) ∧ IsRows w' u (lsR M a X) ∧ Ext w w' := by
  have hm' := hm
  have ha' := ha
  have hX' := hXi
  obtain ⟨v1, rfl, hR⟩ := hm
  obtain ⟨a1, c1, rfl, l1⟩ := hR.form
  obtain ⟨da, ma, rfl, la⟩ := ha.form
  obtain ⟨aX, mX, rfl, lX⟩ := hXi.form
  have z0 : ((w.alloc (.cells #[.slice a1 M.length c1] 26)).alloc (.cells #[] 27)).cell? ⟨w.heap.size, 0, none⟩ = some (.slice a1 M.length c1) := by go_simp
  have e2 : Ext w ((w.alloc (.cells #[.slice a1 M.length c1] 26)).alloc (.cells #[] 27)) := inferInstance
  have tab0 : Tab ((w.alloc (.cells #[.slice a1 M.length c1] 26)).alloc (.cells #[] 27)) (w.heap.size + 1) (.slice (some ⟨w.heap.size + 1, 0, none⟩) 0 0) [] [] := by
    have h := Tab.start (Own.nil (w.alloc (.cells #[.slice a1 M.length c1] 26)) (w.heap.size + 1)) (by simp)
    rw [show (w.alloc (.cells #[.slice a1 M.length c1] 26)).heap.size = w.heap.size + 1 by simp] at h
    exact h
  have hs2 : w.heap.size + 1 ≤ ((w.alloc (.cells #[.slice a1 M.length c1] 26)).alloc (.cells #[] 27)).heap.size := by simp
  cases hS : srvB M a X with
  | false =>
    have hr := hid (lsR_no hS)
    have hsd := hS
    rw [srvB] at hsd
    replace hS := hid hS
    go_enter Tryz.func46, Tryz.ntmps46
    go_upto_region 2 with fail
    obtain ⟨bx, hbx⟩ : ∃ b, b = w.heap.size := ⟨_, rfl⟩
    rw [← hbx] at z0 ⊢
    replace hbx := hid hbx
    clear tab0 hs2
    generalize (w.alloc (.cells #[.slice a1 M.length c1] 26)).alloc (.cells #[] 27) = w2 at *
    have e02 : Ext w0 w2 := Ext.trans ‹Ext w0 w› e2
    cases hM : metB M with
    | false =>
      replace hM := hid hM
      go_wp2_with fail
      with_reducible refine (l6Good_any (w0 := w0) hm').mono ?_
      rw [hM.out]
      rintro e w3 ⟨rfl, e3⟩
      go_wp2_with fail
      go_ret2
      rw [hr.out]
      exact ⟨_, rfl, rows_none _ _ _, Ext.trans e2 e3⟩
    | true =>
      replace hM := hid hM
      go_wp2_with fail
      with_reducible refine (l6Good_any (w0 := w0) hm').mono ?_
      rw [hM.out]
      rintro e w3 ⟨rfl, e3⟩
      have e03 : Ext w0 w3 := Ext.trans e02 e3
      have z3 := e3.cell z0
      go_wp2_with fail
      with_reducible refine (l6Start_any (w0 := w0) hm' ha' hX').mono ?_
      rw [hS.out]
      rintro e w4 ⟨rfl, e4⟩
      go_wp2_with fail
      go_ret2
      rw [hr.out]
      exact ⟨_, rfl, rows_none _ _ _, Ext.trans e2 (Ext.trans e3 e4)⟩
  | true =>
    have hr := hid (lsR_yes hS)
    have hSS := hid hS
    have hTok := hid (lsT_ok hS)
    have hrT := hid (rsT_ok hS)
    have hrg := hid (fun d (hd : d ≤ X.length) => rs_good hS d hd)
    have hri := hid (fun d (hd : d ≤ X.length) => @rs_i64 M a X hS d hd)
    have hlc := hid (ls_conf hS)
    have hls := hid (fun x (hx : x ∈ confs M.length a.length 0) i (hi : i < X.length) => ls_step hS hx hi)
    have hPm := hid (show ∀ i, i < (confs M.length a.length 0).length → (row (confs M.length a.length 0) i).length = a.length ∧ Pts M.length (row (confs M.length a.length 0) i) from fun i hi => by
      obtain ⟨h1, h2, _⟩ := row_conf hi
      exact ⟨h1, h2⟩)
    obtain ⟨hM, hk, hac, hl60, hX⟩ := srv_parts hS
    have hMl := met_len hM
    have h216 := confs_216 hMl.2 hk.2
    have hcp := confs_pos (k := a.length) hMl.1
    have hmv := hid (confs_mv (dst_of_met hM) hk.2)
    have hrow := hid (confs_rows (f := 0) hMl.2 hk.2)
    have hro := hid (fun j (hj : j < (confs M.length a.length 0).length) => atR_row hj)
    have hXp := hid (show Pts M.length X from fun x hx => by
      obtain ⟨j, hj, rfl⟩ := mem_iff_nth.1 hx
      exact hX j hj)
    have hM' := hid hM
    have hac' := hid hac
    clear hM hac hX
    replace hS := hid hS
    go_enter Tryz.func46, Tryz.ntmps46
    go_upto_region 2 with fail
    obtain ⟨B, hB⟩ : ∃ B, B = w.heap.size + 1 := ⟨_, rfl⟩
    rw [← hB] at tab0 hs2 ⊢
    have hwB : w.heap.size ≤ B := by omega
    have hbB : w.heap.size < B := by omega
    obtain ⟨bx, hbx⟩ : ∃ b, b = w.heap.size := ⟨_, rfl⟩
    rw [← hbx] at z0 hbB ⊢
    replace hbx := hid hbx
    replace hB := hid hB
    generalize (w.alloc (.cells #[.slice a1 M.length c1] 26)).alloc (.cells #[] 27) = w2 at *
    have e02 : Ext w0 w2 := Ext.trans ‹Ext w0 w› e2
    go_wp2_with fail
    with_reducible refine (l6Good_any (w0 := w0) hm').mono ?_
    rw [hM'.out]
    rintro e w3 ⟨rfl, e3⟩
    have e03 : Ext w0 w3 := Ext.trans e02 e3
    have z3 := e3.cell z0
    have tab3 := tab0.ext (w' := w3)
    have hB3 : B ≤ w3.heap.size := Nat.le_trans hs2 e3.size
    go_wp2_with fail
    with_reducible refine (l6Start_any (w0 := w0) hm' ha' hX').mono ?_
    rw [hS.out]
    rintro e w4 ⟨rfl, e4⟩
    have z4 := e4.cell z3
    have tab4 := tab3.ext (w' := w4)
    have hB4 : B ≤ w4.heap.size := Nat.le_trans hB3 e4.size
    have e24 : Ext w2 w4 := Ext.trans e3 e4
    have e04 : Ext w0 w4 := Ext.trans e02 e24
    clear tab0 tab3 z3 e3 e4 e03
    obtain ⟨P, hPd⟩ : ∃ p, p = confs M.length a.length 0 := ⟨_, rfl⟩
    have hkd : a.length ≤ 3 := hk.2
    go_wp2_with fail
    with_reducible refine (l6ConfigsO_any (n := M.length) hMl.2 hkd _).mono ?_
    rintro e w5 ⟨vP, RP, rfl, tabP, e5⟩
    have z5 := e5.cell z4
    have e05 : Ext w0 w5 := Ext.trans e04 e5
    obtain ⟨aP, cP, rfl⟩ := tabP.place (by omega)
    have hPr : IsRows w5 _ (confs M.length a.length 0) := tabP.reads hrow.out.1 hrow.out.2.1 hrow.out.2.2
    obtain ⟨vsP, hvP, ownP⟩ := tabP
    have tab5 := tab4.beside ownP e5 hB4
    have hB5 : B ≤ w5.heap.size := Nat.le_trans hB4 e5.size
    clear tab4 z4
    go_wp2_with fail
    with_reducible refine (l7Rest_any (w0 := w5) (w := w5) (hm'.ext (e := e05)) hPr (hX'.ext (e := e05)) hSS.out).mono ?_
    rintro e w6 ⟨vR, rfl, tabR, e6⟩
    have z6 := e6.cell z5
    have e06 : Ext w0 w6 := Ext.trans e05 e6
    obtain ⟨aT, cT, rfl⟩ := tabR.place (by rw [rsTab_len]; omega)
    rw [rsTab_len] at tabR ⊢
    obtain ⟨vsT, hvT, ownT⟩ := tabR
    have tab6 := tab5.beside ownT e6 hB5
    have hB6 : B ≤ w6.heap.size := Nat.le_trans hB5 e6.size
    have e26 : Ext w2 w6 := Ext.trans e24 (Ext.trans e5 e6)
    clear tab5 z5 ownP ownT hPr
    obtain ⟨Z, hZd⟩ : ∃ z, z = rowsOf 27 3 (.slice (some ⟨aT, 0, none⟩) (X.length + 1) cT) vsT (rsTab M (confs M.length a.length 0) X (X.length + 1)) ++ [] ++ (rowsOf 27 3 (.slice (some ⟨aP, 0, none⟩) (confs M.length a.length 0).length cP) vsP (confs M.length a.length 0) ++ RP ++ []) := ⟨_, rfl⟩
    rw [← hZd] at tab6
    have hZ := hid (show ∀ u, Own u B Z → IsRows u (.slice (some ⟨aP, 0, none⟩) (confs M.length a.length 0).length cP) (confs M.length a.length 0) ∧
        (∀ i, i < (confs M.length a.length 0).length → u.cell? ⟨aP, 0 + i, none⟩ = some (vsP.getD i undef) ∧ IsInts u (vsP.getD i undef) (row (confs M.length a.length 0) i)) ∧
        ∀ i, i ≤ X.length → u.cell? ⟨aT, i, none⟩ = some (vsT.getD i undef) ∧ IsInts u (vsT.getD i undef) (rsD M (confs M.length a.length 0) X (X.length - i)) from fun u o => by
      rw [hZd] at o
      have oP := o.right.left
      refine ⟨(show Tab u B _ _ RP from ⟨vsP, hvP, oP⟩).reads hrow.out.1 hrow.out.2.1 hrow.out.2.2, fun i hi => ?_, fun i hi => ?_⟩
      · rw [Nat.zero_add]
        exact own_tab oP hvP rfl hrow.out.2.1 hrow.out.2.2 i hi
      · have h := own_tab o.left (by rw [hvT, rsTab_len]) (rsTab_len ..) hrT.out.2.1 hrT.out.2.2 i (by omega)
        rw [rsTab_row hi (by omega)] at h
        exact h)
    clear hZd hvP hvT
    have hrl := hid (fun d (hd : d ≤ X.length) => rs_len hSS.out hd)
    rw [← hPd] at hr hTok hrg hri hlc hls hPm h216 hcp hmv hro hac' hZ hrl ⊢
    clear hrT hrow
    replace hPd := hid hPd
    obtain ⟨pv, hpv⟩ : ∃ f : Nat → Value, f = fun i => vsP.getD i undef := ⟨_, rfl⟩
    obtain ⟨tv, htv⟩ : ∃ f : Nat → Value, f = fun i => vsT.getD i undef := ⟨_, rfl⟩
    replace hZ := hid (show ∀ u, Own u B Z → IsRows u (.slice (some ⟨aP, 0, none⟩) P.length cP) P ∧
        (∀ i, i < P.length → u.cell? ⟨aP, 0 + i, none⟩ = some (pv i) ∧ IsInts u (pv i) (row P i)) ∧
        ∀ i, i ≤ X.length → u.cell? ⟨aT, i, none⟩ = some (tv i) ∧ IsInts u (tv i) (rsD M P X (X.length - i)) by rw [hpv, htv]; exact hZ.out)
    clear hpv htv
    have b6 : Below B w2 w6 := e26.below.mono hs2
    have hEx := hid (show ∀ u, Below B w2 u → Ext w u from fun u h => ⟨e2.below.trans (h.mono hwB)⟩)
    have hBu := hid (show ∀ u, Below B w2 u → B ≤ u.heap.size from fun u h => Nat.le_trans hs2 h.size)
    have hcx := hid (show ∀ u, Below B w2 u → u.cell? ⟨bx, 0, none⟩ = some (.slice a1 M.length c1) from fun u h => (h.cell (p := ⟨bx, 0, none⟩) hbB).trans z0)
    have hE0 := hid (show ∀ u, Below B w2 u → Ext w0 u from fun u h => Ext.trans ‹Ext w0 w› (hEx.out u h))
    clear z6 e06 e26 e05 e04 e24 z0 hB3 hB4 hB5 hB6
    go_wp2_with fail
    go_loopw [8, 11, 12] (fun ov xv i wr => ∃ q : Nat, q ≤ X.length ∧ i = .int .i64 q ∧ Tab wr B ov (lsT M P a X q) Z ∧ Hid (∀ u, Own u B Z → Below B w2 u → IsInts u xv (lsA M P a X q)) ∧ Below B w2 wr) (fun _ _ i _ => X.length - (intOf i).toNat)
    case atStart => exact ⟨0, by omega, rfl, tab6, hid (fun u _ h => ha'.ext (e := hE0.out _ h)), b6⟩
    case round =>
      clear tab6 b6 e5 e6
      obtain ⟨q, hq, rfl, tab, hrd, hb⟩ := hrel
      obtain ⟨wq, rfl⟩ : ∃ y : World, y = wr := ⟨_, rfl⟩
      have ewq : Ext w wq := hEx.out _ hb
      have e0q : Ext w0 wq := hE0.out _ hb
      have hBq := hBu.out _ hb
      by_cases hlt : q < X.length
      · obtain ⟨dO, nO, mO, rfl, hnO⟩ := tab.formN
        obtain ⟨hPr, hPc, hTc⟩ := hZ.out wq tab.rest
        have hA := hrd.out wq tab.rest hb
        clear hrd
        have hAc := hlc.out q hq
        obtain ⟨bX, oX, rn, rfl, hr1, hr2, hcX⟩ := hX'.pt hXp.out (w' := wq) hlt
        obtain ⟨hz1, hz2⟩ := atR_lt hAc
        obtain ⟨jj, hj1, hj2, hj3⟩ := first_of (hls.out _ hAc q hlt)
        have hlj := lsJ_at hj1 hj3 hj2
        have hnA := hid (show lsA M P a X (q + 1) = row P jj by rw [lsA, hlj])
        have hTs1 := hid (show lsT M P a X (q + 1) = lsT M P a X q ++ [row P jj] by rw [lsT_succ, hnA.out])
        have hTl2 : (lsT M P a X q).length ≤ 1000000 := by rw [lsT_len]; omega
        have hg1 := hrg.out (X.length - (q + 1)) (by omega)
        have hg0 := hrg.out (X.length - q) (by omega)
        have hl1 := hrl.out (X.length - (q + 1)) (by omega)
        have hl0 := hrl.out (X.length - q) (by omega)
        have hv1 : ∀ j, j < P.length → 0 ≤ nth (rsD M P X (X.length - (q + 1))) j ∧ nth (rsD M P X (X.length - (q + 1))) j ≤ 1000000 := fun j hj => by
          have := hg1.2 j hj
          omega
        obtain ⟨hc1, hi1⟩ := hTc (q + 1) (by omega)
        obtain ⟨hc0, hi0⟩ := hTc q (by omega)
        obtain ⟨hPc2, hPi2⟩ := hPc jj hj1
        have hxc : lsA M P a X q ∈ confs M.length a.length 0 := by rw [← hPd.out]; exact hAc
        obtain ⟨hxk, hxp⟩ := conf_pts hxc
        have hxk' := hid hxk
        have hPk : ∀ i, i < P.length → (row P i).length = (lsA M P a X q).length ∧ Pts M.length (row P i) := fun i hi => ⟨by rw [(hPm.out i hi).1, hxk'.out], (hPm.out i hi).2⟩
        have hmx : ∀ i, i < P.length → 0 ≤ mvC M (lsA M P a X q) (row P i) ∧ mvC M (lsA M P a X q) (row P i) ≤ 1000 := fun i hi => by
          have := hmv.out (atR P (lsA M P a X q)) i hz1 hi
          rw [hz2] at this
          exact this
        rw [hr1] at hj2 hj3
        replace hr1 := hid hr1
        obtain ⟨R1, hR1⟩ : ∃ y, y = rsD M P X (X.length - (q + 1)) := ⟨_, rfl⟩
        rw [← hR1] at hl1 hv1 hi1 hj2 hj3
        obtain ⟨R0, hR0⟩ : ∃ y, y = rsD M P X (X.length - q) := ⟨_, rfl⟩
        rw [← hR0] at hl0 hi0 hj2 hj3
        obtain ⟨x, hxd⟩ : ∃ y, y = lsA M P a X q := ⟨_, rfl⟩
        rw [← hxd] at hz1 hz2 hj2 hj3 hA hAc hxp hPk hmx hxk
        obtain ⟨z, hzd⟩ : ∃ y, y = atR P x := ⟨_, rfl⟩
        rw [← hzd] at hz1 hz2 hj2 hj3
        obtain ⟨TT, hTTd⟩ : ∃ y, y = lsT M P a X q := ⟨_, rfl⟩
        rw [← hTTd] at tab hTs1 hTl2 hnO
        obtain ⟨ct, hct⟩ : ∃ y, y = nth R0 z := ⟨_, rfl⟩
        rw [← hct] at hj2 hj3
        obtain ⟨d1, m1, ht1, _⟩ := hi1.form
        obtain ⟨d0, m0, ht0, _⟩ := hi0.form
        rw [ht1, hl1] at hc1 hi1
        rw [ht0, hl0] at hc0 hi0
        obtain ⟨b9, o9, rfl, hc9⟩ := hi0.at (w' := wq) (k := z) (by rw [hl0]; exact hz1)
        rw [← hct] at hc9
        obtain ⟨dA, mA, rfl, lA⟩ := hA.form
        have hcq := hcx.out _ hb
        have hx3 : x.length ≤ 3 := by rw [hxk]; exact hkd
        have hzd' := hid hzd.symm
        replace hR1 := hid hR1
        replace hR0 := hid hR0
        replace hxd := hid hxd
        replace hzd := hid hzd
        replace hTTd := hid hTTd
        replace hct := hid hct
        replace hlj := hid hlj
        replace hz2 := hid hz2
        replace hj2 := hid hj2
        replace hj3 := hid hj3
        replace hl1 := hid hl1
        replace hl0 := hid hl0
        replace ht1 := hid ht1
        replace ht0 := hid ht0
        replace hxk := hid hxk
        replace hv1 := hid hv1
        replace hmx := hid hmx
        replace hPk := hid hPk
        replace hPc := hid hPc
        have hxp' := hid hxp
        have hSx := hid (show ∀ u, Ext wq u → u.cell? ⟨bx, 0, none⟩ = some (.slice a1 M.length c1) ∧ u.cell? ⟨aT, q + 1, none⟩ = some (.slice d1 P.length m1) ∧ u.cell? ⟨bX, oX + q, none⟩ = some (.int .i64 rn) ∧ u.cell? ⟨aT, q, none⟩ = some (.slice (some ⟨b9, o9, none⟩) P.length m0) ∧ u.cell? ⟨b9, o9 + z, none⟩ = some (.int .i64 ct) from fun u e => ⟨e.cell hcq, e.cell hc1, e.cell hcX, e.cell hc0, e.cell hc9⟩)
        clear hcq hc1 hcX hc0 hc9 hg1 hg0 hTc hxp hPc2
        go_upto_region 10 with fail
        refine region_held_from (w0 := wq) (S := fun u => u.cell? ⟨bx, 0, none⟩ = some (.slice a1 M.length c1) ∧ u.cell? ⟨aT, q + 1, none⟩ = some (.slice d1 P.length m1) ∧ u.cell? ⟨bX, oX + q, none⟩ = some (.int .i64 rn) ∧ u.cell? ⟨aT, q, none⟩ = some (.slice (some ⟨b9, o9, none⟩) P.length m0) ∧ u.cell? ⟨b9, o9 + z, none⟩ = some (.int .i64 ct)) (by kernel_rfl) hSx.out (fun wd ed hHeld0 => ?_)
        refine wpAnyH_take (i := 0) (v := .agg #[.slice a1 M.length c1]) rfl (by kernel_rfl) (by kernel_rfl) (by kernel_rfl) (fun _ _ _ h => h) (Or.inl ⟨by rfl, by intro wx hx; obtain ⟨_, _, _, _, _⟩ := hx; go_simp⟩) (by assumption) ?_
        try simp only [List.getElem_toArray, List.getElem_cons_zero, Act.put, List.setIfInBounds_toArray, List.set_cons_zero, List.set_cons_succ]
        refine wpAnyH_take (i := 1) (v := .slice (some ⟨aP, 0, none⟩) P.length cP) rfl (by kernel_rfl) (by kernel_rfl) (by kernel_rfl) (fun _ _ _ h => h) (Or.inl ⟨by rfl, by intro wx hx; go_simp⟩) (by assumption) ?_
        try simp only [List.getElem_toArray, List.getElem_cons_succ, List.getElem_cons_zero, Act.put, List.setIfInBounds_toArray, List.set_cons_zero, List.set_cons_succ]
        refine wpAnyH_take (i := 2) (v := .slice (some ⟨aT, 0, none⟩) (X.length + 1) cT) rfl (by kernel_rfl) (by kernel_rfl) (by kernel_rfl) (fun _ _ _ h => h) (Or.inl ⟨by rfl, by intro wx hx; go_simp⟩) (by assumption) ?_
        try simp only [List.getElem_toArray, List.getElem_cons_succ, List.getElem_cons_zero, Act.put, List.setIfInBounds_toArray, List.set_cons_zero, List.set_cons_succ]
        refine wpAnyH_take (i := 3) (v := .int .i64 q) rfl (by kernel_rfl) (by kernel_rfl) (by kernel_rfl) (fun _ _ _ h => h) (Or.inl ⟨by rfl, by intro wx hx; go_simp⟩) (by assumption) ?_
        try simp only [List.getElem_toArray, List.getElem_cons_succ, List.getElem_cons_zero, Act.put, List.setIfInBounds_toArray, List.set_cons_zero, List.set_cons_succ]
        refine wpAnyH_take (i := 4) (v := .int .i64 ((q : Int) + 1)) rfl (by kernel_rfl) (by kernel_rfl) (by kernel_rfl) (fun _ _ _ h => h) (Or.inl ⟨by rfl, by intro wx hx; (go_simp; exact IntWalk.i64_in _ (by omega))⟩) (by assumption) ?_
        try simp only [List.getElem_toArray, List.getElem_cons_succ, List.getElem_cons_zero, Act.put, List.setIfInBounds_toArray, List.set_cons_zero, List.set_cons_succ]
        refine wpAnyH_take (i := 5) (v := .pointer (some ⟨aT, q + 1, none⟩)) rfl (by kernel_rfl) (by kernel_rfl) (by kernel_rfl) (fun _ _ _ h => h) (Or.inl ⟨by rfl, by intro wx hx; (go_simp; intro hq; exfalso; omega)⟩) (by assumption) ?_
        try simp only [List.getElem_toArray, List.getElem_cons_succ, List.getElem_cons_zero, Act.put, List.setIfInBounds_toArray, List.set_cons_zero, List.set_cons_succ]
        refine wpAnyH_take (i := 6) (v := .slice d1 P.length m1) rfl (by kernel_rfl) (by kernel_rfl) (by kernel_rfl) (fun _ _ _ h => h) (Or.inl ⟨by rfl, by intro wx hx; obtain ⟨_, _, _, _, _⟩ := hx; go_simp⟩) (by assumption) ?_
        try simp only [List.getElem_toArray, List.getElem_cons_succ, List.getElem_cons_zero, Act.put, List.setIfInBounds_toArray, List.set_cons_zero, List.set_cons_succ]
        refine wpAnyH_take (i := 7) (v := .slice dA x.length mA) rfl (by kernel_rfl) (by kernel_rfl) (by kernel_rfl) (fun _ _ _ h => h) (Or.inl ⟨by rfl, by intro wx hx; go_simp⟩) (by assumption) ?_
        try simp only [List.getElem_toArray, List.getElem_cons_succ, List.getElem_cons_zero, Act.put, List.setIfInBounds_toArray, List.set_cons_zero, List.set_cons_succ]
        refine wpAnyH_take (i := 8) (v := .slice (some ⟨bX, oX, none⟩) X.length mX) rfl (by kernel_rfl) (by kernel_rfl) (by kernel_rfl) (fun _ _ _ h => h) (Or.inl ⟨by rfl, by intro wx hx; go_simp⟩) (by assumption) ?_
        try simp only [List.getElem_toArray, List.getElem_cons_succ, List.getElem_cons_zero, Act.put, List.setIfInBounds_toArray, List.set_cons_zero, List.set_cons_succ]
        refine wpAnyH_take (i := 9) (v := .int .i64 q) rfl (by kernel_rfl) (by kernel_rfl) (by kernel_rfl) (fun _ _ _ h => h) (Or.inl ⟨by rfl, by intro wx hx; go_simp⟩) (by assumption) ?_
        try simp only [List.getElem_toArray, List.getElem_cons_succ, List.getElem_cons_zero, Act.put, List.setIfInBounds_toArray, List.set_cons_zero, List.set_cons_succ]
        refine wpAnyH_take (i := 10) (v := .pointer (some ⟨bX, oX + q, none⟩)) rfl (by kernel_rfl) (by kernel_rfl) (by kernel_rfl) (fun _ _ _ h => h) (Or.inl ⟨by rfl, by intro wx hx; go_simp⟩) (by assumption) ?_
        try simp only [List.getElem_toArray, List.getElem_cons_succ, List.getElem_cons_zero, Act.put, List.setIfInBounds_toArray, List.set_cons_zero, List.set_cons_succ]
        refine wpAnyH_take (i := 11) (v := .int .i64 rn) rfl (by kernel_rfl) (by kernel_rfl) (by kernel_rfl) (fun _ _ _ h => h) (Or.inl ⟨by rfl, by intro wx hx; obtain ⟨_, _, _, _, _⟩ := hx; go_simp⟩) (by assumption) ?_
        try simp only [List.getElem_toArray, List.getElem_cons_succ, List.getElem_cons_zero, Act.put, List.setIfInBounds_toArray, List.set_cons_zero, List.set_cons_succ]
        refine wpAnyH_take (i := 12) (v := .slice (some ⟨aT, 0, none⟩) (X.length + 1) cT) rfl (by kernel_rfl) (by kernel_rfl) (by kernel_rfl) (fun _ _ _ h => h) (Or.inl ⟨by rfl, by intro wx hx; go_simp⟩) (by assumption) ?_
        try simp only [List.getElem_toArray, List.getElem_cons_succ, List.getElem_cons_zero, Act.put, List.setIfInBounds_toArray, List.set_cons_zero, List.set_cons_succ]
        refine wpAnyH_take (i := 13) (v := .int .i64 q) rfl (by kernel_rfl) (by kernel_rfl) (by kernel_rfl) (fun _ _ _ h => h) (Or.inl ⟨by rfl, by intro wx hx; go_simp⟩) (by assumption) ?_
        try simp only [List.getElem_toArray, List.getElem_cons_succ, List.getElem_cons_zero, Act.put, List.setIfInBounds_toArray, List.set_cons_zero, List.set_cons_succ]
        refine wpAnyH_take (i := 14) (v := .pointer (some ⟨aT, q, none⟩)) rfl (by kernel_rfl) (by kernel_rfl) (by kernel_rfl) (fun _ _ _ h => h) (Or.inl ⟨by rfl, by intro wx hx; (go_simp; intro hq; exfalso; omega)⟩) (by assumption) ?_
        try simp only [List.getElem_toArray, List.getElem_cons_succ, List.getElem_cons_zero, Act.put, List.setIfInBounds_toArray, List.set_cons_zero, List.set_cons_succ]
        refine wpAnyH_take (i := 15) (v := .slice (some ⟨b9, o9, none⟩) P.length m0) rfl (by kernel_rfl) (by kernel_rfl) (by kernel_rfl) (fun _ _ _ h => h) (Or.inl ⟨by rfl, by intro wx hx; obtain ⟨_, _, _, _, _⟩ := hx; go_simp⟩) (by assumption) ?_
        try simp only [List.getElem_toArray, List.getElem_cons_succ, List.getElem_cons_zero, Act.put, List.setIfInBounds_toArray, List.set_cons_zero, List.set_cons_succ]
        refine wpAnyH_take (i := 16) (v := .slice (some ⟨aP, 0, none⟩) P.length cP) rfl (by kernel_rfl) (by kernel_rfl) (by kernel_rfl) (fun _ _ _ h => h) (Or.inl ⟨by rfl, by intro wx hx; go_simp⟩) (by assumption) ?_
        try simp only [List.getElem_toArray, List.getElem_cons_succ, List.getElem_cons_zero, Act.put, List.setIfInBounds_toArray, List.set_cons_zero, List.set_cons_succ]
        refine wpAnyH_take (i := 17) (v := .slice dA x.length mA) rfl (by kernel_rfl) (by kernel_rfl) (by kernel_rfl) (fun _ _ _ h => h) (Or.inl ⟨by rfl, by intro wx hx; go_simp⟩) (by assumption) ?_
        try simp only [List.getElem_toArray, List.getElem_cons_succ, List.getElem_cons_zero, Act.put, List.setIfInBounds_toArray, List.set_cons_zero, List.set_cons_succ]
        refine wpAnyH_ready (rs := [18]) (by kernel_rfl) (by simp) ?_
        refine AllReadyH.cons rfl (fun K hK => ?_) AllReadyH.nil
        go_simp
        go_at_call 81
        refine (l7Index_any (w0 := wq) hPr hA hAc).mono ?_
        rw [hzd'.out]
        rintro e w7 ⟨rfl, e7⟩
        have e7q : Ext wq w7 := Ext.trans ed e7
        have hS7 := hSx.out w7 e7q
        go_wp2_with fail
        refine hK.out _ _ hS7 (fun _ => ?_)
        clear hK K
        try simp only [List.getElem_toArray, List.getElem_cons_succ, List.getElem_cons_zero, Act.put, List.setIfInBounds_toArray, List.set_cons_zero, List.set_cons_succ]
        refine wpAnyH_take (i := 19) (v := .pointer (some ⟨b9, o9 + z, none⟩)) rfl (by kernel_rfl) (by kernel_rfl) (by kernel_rfl) (fun _ _ _ h => h) (Or.inl ⟨by rfl, by intro wx hx; go_simp⟩) (by assumption) ?_
        try simp only [List.getElem_toArray, List.getElem_cons_succ, List.getElem_cons_zero, Act.put, List.setIfInBounds_toArray, List.set_cons_zero, List.set_cons_succ]
        refine wpAnyH_take (i := 20) (v := .int .i64 ct) rfl (by kernel_rfl) (by kernel_rfl) (by kernel_rfl) (fun _ _ _ h => h) (Or.inl ⟨by rfl, by intro wx hx; obtain ⟨_, _, _, _, _⟩ := hx; go_simp⟩) (by assumption) ?_
        try simp only [List.getElem_toArray, List.getElem_cons_succ, List.getElem_cons_zero, Act.put, List.setIfInBounds_toArray, List.set_cons_zero, List.set_cons_succ]
        refine wpAnyH_ready (rs := [21]) (by kernel_rfl) (by simp) ?_
        refine AllReadyH.cons rfl (fun K hK => ?_) AllReadyH.nil
        go_simp
        go_at_call 112
        refine (l7First_any (w0 := wq) (pv := pv) (hm'.ext (e := e0q)) hM'.out hPc.out hi1 hA hPk.out hxp'.out hx3 (by omega) hl1.out hv1.out hmx.out hj1 hj3.out hj2.out).mono ?_
        rintro e w8 ⟨rfl, e8⟩
        have e8q : Ext wq w8 := Ext.trans e7q e8
        have hS8 := hSx.out w8 e8q
        go_wp2_with fail
        refine hK.out _ _ hS8 (fun _ => ?_)
        clear hK K
        try simp only [List.getElem_toArray, List.getElem_cons_succ, List.getElem_cons_zero, Act.put, List.setIfInBounds_toArray, List.set_cons_zero, List.set_cons_succ]
        refine wpAnyH_take (i := 22) (v := pv jj) rfl (by kernel_rfl) (by kernel_rfl) (by kernel_rfl) (fun _ _ _ h => h) (Or.inl ⟨by rfl, by intro wx hx; go_simp⟩) (by assumption) ?_
        try simp only [List.getElem_toArray, List.getElem_cons_succ, List.getElem_cons_zero, Act.put, List.setIfInBounds_toArray, List.set_cons_zero, List.set_cons_succ]
        refine wpAnyH_done (by kernel_rfl) ?_ _
        have tab8 := tab.ext (w' := w8)
        have hU : IsInts w8 (pv jj) (row P jj) := hPi2.ext
        have hB8 : B ≤ w8.heap.size := Nat.le_trans hBq e8q.size
        have b8 : Below B w2 w8 := hb.trans (e8q.below.mono hBq)
        clear tab hb hA
        go_wp2_with fail
        with_reducible refine (l1Own_any (w0 := w8) (w := w8) hU).mono ?_
        rintro e w9 ⟨d9, m9, rfl, own9, e9⟩
        have tabX := tab8.join own9 e9 hB8
        have hB9 : B ≤ w9.heap.size := Nat.le_trans hB8 e9.size
        have b9' : Below B w2 w9 := b8.trans (e9.below.mono hB8)
        clear tab8 own9
        go_wp2_with (at_builtin; refine wpList_push rfl (.tmp 64) (.tmp 67) rfl rfl tabX hB9 rfl hTl2 ?_; intro v10 w10 tab10 b10)
        go_roundw
        case rel => exact ⟨q + 1, by omega, by go_num, by rw [hTs1.out]; exact tab10, hid (fun u o _ => by
          rw [hnA.out]
          exact ((hZ.out u o).2.1 jj hj1).2), b9'.trans b10⟩
        case measure => simp [intOf]; omega
      · have hqn : q = X.length := by omega
        rw [hqn] at tab
        have hT := tab.drop.reads hTok.out.1 hTok.out.2.1 hTok.out.2.2
        replace hqn := hid hqn
        go_wp2_with fail
        go_ret2
        exact ⟨_, rfl, by rw [hr.out]; exact hT, ewq⟩
end Go.Proofs.YtmgcfnciejfpbaaGreat
