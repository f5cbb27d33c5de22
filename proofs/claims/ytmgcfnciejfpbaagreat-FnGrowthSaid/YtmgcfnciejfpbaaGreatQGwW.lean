/- The greatest growth of a work list: program and reference. -/
import Derived.Test.YtmgcfnciejfpbaaGreatQGwP
import Derived.Test.YtmgcfnciejfpbaaGreatQWkI
namespace Go.Proofs.YtmgcfnciejfpbaaGreat
open Go.RowKit

set_option maxHeartbeats 1600000 in
set_option maxRecDepth 100000 in
theorem l7Growth_any {v u : Value} {ws nx : List Int} {w0 w : World} [e0 : Ext w0 w] (hw : IsInts w0 v ws) (hn : IsInts w0 u nx) (hl : ws.length = nx.length) (hwb : ∀ j, j < ws.length → 0 ≤ nth ws j ∧ nth ws j ≤ 2000000) (hnb : ∀ j, j < nx.length → 0 ≤ nth nx j ∧ nth nx j ≤ 2000000) :
    Calls Tryz.prog 117 #[v, u] w fun e w' => e = .returned (.int .i64 (grwTo ws nx nx.length)) ∧ Ext w w' := by
  obtain ⟨dw, mw, rfl, lw⟩ := hw.form
  obtain ⟨dn, mn, rfl, ln⟩ := hn.form
  replace hl := hid hl
  replace hwb := hid hwb
  replace hnb := hid hnb
  go_enter Tryz.func117, Tryz.ntmps117
  go_wp2
  go_loopw [5, 6] (fun m i wr => ∃ q : Nat, q ≤ ws.length ∧ i = .int .i64 q ∧ m = .int .i64 (grwTo ws nx q) ∧ Ext w wr) (fun _ i _ => ws.length - (intOf i).toNat)
  case atStart => exact ⟨0, by omega, rfl, rfl, Ext.refl _⟩
  case round =>
    obtain ⟨q, hq, rfl, rfl, hy⟩ := hrel
    obtain ⟨wq, rfl⟩ : ∃ y : World, y = wr := ⟨_, rfl⟩
    have e0q : Ext w0 wq := Ext.trans e0 hy
    by_cases hlt : q < ws.length
    · have hqn : q < nx.length := by rw [← hl.out]; exact hlt
      obtain ⟨bw, ow, hdw, hcw⟩ := hw.at (w' := wq) hlt
      subst hdw
      obtain ⟨bn, on, hdn, hcn⟩ := hn.at (w' := wq) hqn
      subst hdn
      have h1 := hwb.out q hlt
      have h2 := hnb.out q hqn
      obtain ⟨g2, hg2⟩ : ∃ z, z = grwTo ws nx (q + 1) := ⟨_, rfl⟩
      have hgn := hid (show g2 = max (grwTo ws nx q) (nth nx q - nth ws q) from hg2)
      replace hg2 := hid hg2
      generalize grwTo ws nx q = g at *
      generalize nth ws q = x at *
      generalize nth nx q = y at *
      have hSx := hid (show ∀ u, Ext wq u → u.cell? ⟨bn, on + q, none⟩ = some (.int .i64 y) ∧ u.cell? ⟨bw, ow + q, none⟩ = some (.int .i64 x) from fun u e => ⟨e.cell hcn, e.cell hcw⟩)
      go_upto_region 5 with fail
      clear hcn hcw
      refine region_held_from (w0 := wq) (S := fun u => u.cell? ⟨bn, on + q, none⟩ = some (.int .i64 y) ∧ u.cell? ⟨bw, ow + q, none⟩ = some (.int .i64 x)) (by kernel_rfl) hSx.out (fun wd ed hHeld0 => ?_)
      refine wpAnyH_take (i := 0) (v := .int .i64 g) rfl (by kernel_rfl) (by kernel_rfl) (by kernel_rfl) (fun _ _ _ h => h) (Or.inl ⟨by rfl, by intro wx hx; go_simp⟩) (by assumption) ?_
      try simp only [List.getElem_toArray, List.getElem_cons_zero, Act.put, List.setIfInBounds_toArray, List.set_cons_zero, List.set_cons_succ]
      refine wpAnyH_take (i := 1) (v := .slice (some ⟨bn, on, none⟩) nx.length mn) rfl (by kernel_rfl) (by kernel_rfl) (by kernel_rfl) (fun _ _ _ h => h) (Or.inl ⟨by rfl, by intro wx hx; go_simp⟩) (by assumption) ?_
      try simp only [List.getElem_toArray, List.getElem_cons_succ, List.getElem_cons_zero, Act.put, List.setIfInBounds_toArray, List.set_cons_zero, List.set_cons_succ]
      refine wpAnyH_take (i := 2) (v := .int .i64 q) rfl (by kernel_rfl) (by kernel_rfl) (by kernel_rfl) (fun _ _ _ h => h) (Or.inl ⟨by rfl, by intro wx hx; go_simp⟩) (by assumption) ?_
      try simp only [List.getElem_toArray, List.getElem_cons_succ, List.getElem_cons_zero, Act.put, List.setIfInBounds_toArray, List.set_cons_zero, List.set_cons_succ]
      refine wpAnyH_take (i := 3) (v := .pointer (some ⟨bn, on + q, none⟩)) rfl (by kernel_rfl) (by kernel_rfl) (by kernel_rfl) (fun _ _ _ h => h) (Or.inl ⟨by rfl, by intro wx hx; go_simp⟩) (by assumption) ?_
      try simp only [List.getElem_toArray, List.getElem_cons_succ, List.getElem_cons_zero, Act.put, List.setIfInBounds_toArray, List.set_cons_zero, List.set_cons_succ]
      refine wpAnyH_take (i := 4) (v := .int .i64 y) rfl (by kernel_rfl) (by kernel_rfl) (by kernel_rfl) (fun _ _ _ h => h) (Or.inl ⟨by rfl, by intro wx hx; obtain ⟨_, _⟩ := hx; go_simp⟩) (by assumption) ?_
      try simp only [List.getElem_toArray, List.getElem_cons_succ, List.getElem_cons_zero, Act.put, List.setIfInBounds_toArray, List.set_cons_zero, List.set_cons_succ]
      refine wpAnyH_take (i := 5) (v := .slice (some ⟨bw, ow, none⟩) ws.length mw) rfl (by kernel_rfl) (by kernel_rfl) (by kernel_rfl) (fun _ _ _ h => h) (Or.inl ⟨by rfl, by intro wx hx; go_simp⟩) (by assumption) ?_
      try simp only [List.getElem_toArray, List.getElem_cons_succ, List.getElem_cons_zero, Act.put, List.setIfInBounds_toArray, List.set_cons_zero, List.set_cons_succ]
      refine wpAnyH_take (i := 6) (v := .int .i64 q) rfl (by kernel_rfl) (by kernel_rfl) (by kernel_rfl) (fun _ _ _ h => h) (Or.inl ⟨by rfl, by intro wx hx; go_simp⟩) (by assumption) ?_
      try simp only [List.getElem_toArray, List.getElem_cons_succ, List.getElem_cons_zero, Act.put, List.setIfInBounds_toArray, List.set_cons_zero, List.set_cons_succ]
      refine wpAnyH_take (i := 7) (v := .pointer (some ⟨bw, ow + q, none⟩)) rfl (by kernel_rfl) (by kernel_rfl) (by kernel_rfl) (fun _ _ _ h => h) (Or.inl ⟨by rfl, by intro wx hx; go_simp⟩) (by assumption) ?_
      try simp only [List.getElem_toArray, List.getElem_cons_succ, List.getElem_cons_zero, Act.put, List.setIfInBounds_toArray, List.set_cons_zero, List.set_cons_succ]
      refine wpAnyH_take (i := 8) (v := .int .i64 x) rfl (by kernel_rfl) (by kernel_rfl) (by kernel_rfl) (fun _ _ _ h => h) (Or.inl ⟨by rfl, by intro wx hx; obtain ⟨_, _⟩ := hx; go_simp⟩) (by assumption) ?_
      try simp only [List.getElem_toArray, List.getElem_cons_succ, List.getElem_cons_zero, Act.put, List.setIfInBounds_toArray, List.set_cons_zero, List.set_cons_succ]
      refine wpAnyH_take (i := 9) (v := .int .i64 (y - x)) rfl (by kernel_rfl) (by kernel_rfl) (by kernel_rfl) (fun _ _ _ h => h) (Or.inl ⟨by rfl, by intro wx hx; (go_simp; exact IntWalk.i64_in _ (by omega))⟩) (by assumption) ?_
      try simp only [List.getElem_toArray, List.getElem_cons_succ, List.getElem_cons_zero, Act.put, List.setIfInBounds_toArray, List.set_cons_zero, List.set_cons_succ]
      refine wpAnyH_ready (rs := [10]) (by kernel_rfl) (by simp) ?_
      refine AllReadyH.cons rfl (fun K hK => ?_) AllReadyH.nil
      go_simp
      go_at_call 76
      with_reducible refine (l1Most_any g (y - x) _).mono ?_
      rw [← hgn.out]
      rintro e w5 ⟨rfl, rfl⟩
      go_wp2_with fail
      refine hK.out _ _ hHeld0 (fun _ => ?_)
      clear hK K
      try simp only [List.getElem_toArray, List.getElem_cons_succ, List.getElem_cons_zero, Act.put, List.setIfInBounds_toArray, List.set_cons_zero, List.set_cons_succ]
      refine wpAnyH_take (i := 11) (v := .int .i64 g2) rfl (by kernel_rfl) (by kernel_rfl) (by kernel_rfl) (fun _ _ _ h => h) (Or.inl ⟨by rfl, by intro wx hx; go_simp⟩) (by assumption) ?_
      try simp only [List.getElem_toArray, List.getElem_cons_succ, List.getElem_cons_zero, Act.put, List.setIfInBounds_toArray, List.set_cons_zero, List.set_cons_succ]
      refine wpAnyH_done (by kernel_rfl) ?_ _
      clear hSx hHeld0
      go_wp2_with fail
      go_roundw
      case rel => exact ⟨q + 1, by omega, by go_num, by rw [hg2.out], Ext.trans hy ed⟩
      case measure => simp [intOf]; omega
    · have hqe : q = nx.length := by have := hl.out; omega
      subst hqe
      go_wp2_with fail
      go_ret
      exact ⟨rfl, hy⟩
set_option maxHeartbeats 1600000 in
set_option maxRecDepth 100000 in
theorem specGrowth_any {v vw : Value} {M : List (List Int)} {ws : List Int} {k r : Int} {w0 w : World} [Ext w0 w] (hm : IsMet w0 v M) (hw : IsInts w0 vw ws) :
    Calls Tryz.prog 57 #[v, .int .i64 k, vw, .int .i64 r] w fun e w' => e = .returned (.tuple #[.int .i64 (gwR M k ws r), .bool (stB M k ws r)]) ∧ Ext w w' := by
  have hm' := hm
  obtain ⟨v1, rfl, hR⟩ := hm
  obtain ⟨a1, c1, rfl, l1⟩ := hR.form
  have hw' := hw
  obtain ⟨dw, mw, rfl, lw⟩ := hw.form
  have x0 : (w.alloc (.cells #[.slice a1 M.length c1] 26)).cell? ⟨w.heap.size, 0, none⟩ = some (.slice a1 M.length c1) := by go_simp
  cases hq : givB M k ws r with
  | false =>
    have hr := hid (show stB M k ws r = false ∧ gwR M k ws r = 0 by
      have h2 : stB M k ws r = false := by rw [stB, hq]; rfl
      exact ⟨h2, by rw [gwR, h2]; rfl⟩)
    replace hq := hid hq
    go_enter Tryz.func57, Tryz.ntmps57
    go_wp2_with fail
    with_reducible refine (l7Given_any (w0 := w0) hm' hw').mono ?_
    rw [hq.out]
    rintro e w1 ⟨rfl, e1⟩
    go_wp2_with fail
    go_ret2
    exact ⟨ret_tuple2 (by rw [hr.out.2]; rfl) (by rw [hr.out.1]; rfl), Ext.trans inferInstance e1⟩
  | true =>
    obtain ⟨hM, ⟨hk1, hk3⟩, hrr, hwb⟩ := giv_parts hq
    obtain ⟨kn, rfl⟩ := Int.eq_ofNat_of_zero_le (show 0 ≤ k by omega)
    rw [Int.toNat_natCast] at hwb
    have hMl := met_len hM
    have hkn : kn ≤ 3 := by omega
    have hk1n : 1 ≤ kn := by omega
    have h216 := confs_216 hMl.2 hkn
    have hg := work_good (M := M) (P := confs M.length kn 0) (ws := ws) hwb
    have hgn := (wnx_good (r := r) (dst_of_met hM) hk1n hkn hg (by omega) hrr).1
    have hnl : (wnxL M (confs M.length kn 0) ws r).length = (confs M.length kn 0).length := by rw [wnxL_len]; exact hg.1.1
    have hst : stB M kn ws r = decide (¬ 99999 < grtL (wnxL M (confs M.length kn 0) ws r)) := by
      rw [stB, hq, Bool.true_and, Int.toNat_natCast]
      exact grt_below fun x hx => by
        obtain ⟨j, hj, rfl⟩ := mem_iff_nth.1 hx
        exact (hgn.2 j (by omega)).1
    have hsl : gwR M kn ws r = if stB M kn ws r then grwTo ws (wnxL M (confs M.length kn 0) ws r) (wnxL M (confs M.length kn 0) ws r).length else 0 := by
      rw [gwR]
      cases h : stB M kn ws r with
      | false => rfl
      | true => rw [stL, if_pos h, Int.toNat_natCast]
    have hin := hid (good_i64 hgn (by omega))
    have hll := hid (show ws.length = (wnxL M (confs M.length kn 0) ws r).length by rw [wnxL_len])
    have hb1 := hid (show ∀ j, j < ws.length → 0 ≤ nth ws j ∧ nth ws j ≤ 2000000 from fun j hj => by have := hg.2 j (by rw [← hg.1.1]; exact hj); omega)
    have hb2 := hid (show ∀ j, j < (wnxL M (confs M.length kn 0) ws r).length → 0 ≤ nth (wnxL M (confs M.length kn 0) ws r) j ∧ nth (wnxL M (confs M.length kn 0) ws r) j ≤ 2000000 from fun j hj => by have := hgn.2 j (by rw [← hnl]; exact hj); omega)
    have hM' := hid hM
    have hg' := hid hg
    clear hM hg hgn hwb
    replace hq := hid hq
    replace hst := hid hst
    replace hsl := hid hsl
    replace hrr := hid hrr
    replace hnl := hid hnl
    go_enter Tryz.func57, Tryz.ntmps57
    go_wp2_with fail
    with_reducible refine (l7Given_any (w0 := w0) hm' hw').mono ?_
    rw [hq.out]
    rintro e w1 ⟨rfl, e1⟩
    have x1 := e1.cell x0
    have e1w : Ext w w1 := Ext.trans inferInstance e1
    have e01 : Ext w0 w1 := Ext.trans ‹Ext w0 w› e1w
    clear x0
    go_wp2_with fail
    with_reducible refine (l7NextO_any (L := 99999) (w0 := w0) hm' hM'.out hw' hk1n hkn hg'.out (by omega) hrr.out).mono ?_
    rintro e w2 ⟨u, rfl, own, e2⟩
    have hX : IsInts w2 u _ := own.reads (by unfold Short; rw [hnl.out]; omega) hin.out
    have e02 : Ext w0 w2 := Ext.trans e01 e2
    have hw2 := hw'.ext (e := e02)
    clear hnl hin hg'
    generalize wnxL M (confs M.length kn 0) ws r = X at *
    obtain ⟨du, mu, hu, lu⟩ := hX.form
    subst hu
    clear own
    go_wp2_with fail
    with_reducible refine (l7Greatest_any (w0 := w2) (w := w2) hX).mono ?_
    rintro e w3 ⟨rfl, rfl⟩
    by_cases hb : 99999 < grtL X
    · have h2 : stB M kn ws r = false := by rw [hst.out]; exact decide_eq_false (by omega)
      have h3 : gwR M kn ws r = 0 := by rw [hsl.out, h2]; rfl
      replace h2 := hid h2
      replace h3 := hid h3
      go_wp2_with fail
      go_ret2
      exact ⟨ret_tuple2 (by rw [h3.out]; rfl) (by rw [h2.out]; rfl), Ext.trans e1w e2⟩
    · have h2 : stB M kn ws r = true := by rw [hst.out]; exact decide_eq_true (by omega)
      have h3 : gwR M kn ws r = grwTo ws X X.length := by rw [hsl.out, h2]; rfl
      replace h2 := hid h2
      replace h3 := hid h3
      go_wp2_with fail
      with_reducible refine (l7Growth_any (w0 := w2) (w := w2) hw2 hX hll.out hb1.out hb2.out).mono ?_
      rw [← h3.out]
      rintro e w4 ⟨rfl, e4⟩
      go_wp2_with fail
      go_ret2
      exact ⟨ret_tuple2 rfl (by rw [h2.out]; rfl), Ext.trans e1w (Ext.trans e2 e4)⟩
set_option maxHeartbeats 1600000 in
set_option maxRecDepth 100000 in
theorem implGrowth_any {v vw : Value} {M : List (List Int)} {ws : List Int} {k r : Int} {w0 w : World} [Ext w0 w] (hm : IsMet w0 v M) (hw : IsInts w0 vw ws) :
    Calls Tryz.prog 52 #[v, .int .i64 k, vw, .int .i64 r] w fun e w' => e = .returned (.tuple #[.int .i64 (gwR M k ws r), .bool (stB M k ws r)]) ∧ Ext w w' := by
  have hm' := hm
  obtain ⟨v1, rfl, hR⟩ := hm
  obtain ⟨a1, c1, rfl, l1⟩ := hR.form
  have hw' := hw
  obtain ⟨dw, mw, rfl, lw⟩ := hw.form
  have x0 : (w.alloc (.cells #[.slice a1 M.length c1] 26)).cell? ⟨w.heap.size, 0, none⟩ = some (.slice a1 M.length c1) := by go_simp
  cases hq : stB M k ws r with
  | false =>
    have hr := hid (show gwR M k ws r = 0 by rw [gwR, hq]; rfl)
    replace hq := hid hq
    go_enter Tryz.func52, Tryz.ntmps52
    go_wp2_with fail
    with_reducible refine (stepWork_any (w0 := w0) hm' hw').mono ?_
    rw [hq.out]
    rintro e w1 ⟨u, rfl, _, e1⟩
    go_wp2_with fail
    go_ret2
    exact ⟨ret_tuple2 (by rw [hr.out]; rfl) rfl, Ext.trans inferInstance e1⟩
  | true =>
    have hr := hid (show gwR M k ws r = grwTo ws (stL M k ws r) (stL M k ws r).length by rw [gwR, hq]; rfl)
    have hgv : givB M k ws r = true := by rw [stB, Bool.and_eq_true] at hq; exact hq.1
    obtain ⟨hM, ⟨hk1, hk3⟩, hrr, hwb⟩ := giv_parts hgv
    have hMl := met_len hM
    have hg := work_good hwb
    have hgn := (wnx_good (r := r) (dst_of_met hM) (k := k.toNat) (by omega) (by omega) hg (by omega) hrr).1
    have hsl : stL M k ws r = wnxL M (confs M.length k.toNat 0) ws r := by rw [stL, if_pos hq]
    have hll : ws.length = (stL M k ws r).length := by rw [hsl, wnxL_len]
    have hb1 := hid (show ∀ j, j < ws.length → 0 ≤ nth ws j ∧ nth ws j ≤ 2000000 from fun j hj => by have := hg.2 j (by rw [← hg.1.1]; exact hj); omega)
    have hb2 := hid (show ∀ j, j < (stL M k ws r).length → 0 ≤ nth (stL M k ws r) j ∧ nth (stL M k ws r) j ≤ 2000000 from fun j hj => by
      rw [hsl] at hj ⊢
      have := hgn.2 j (by rw [wnxL_len, hg.1.1] at hj; exact hj)
      omega)
    clear hsl hgn hg hgv hwb hM hMl
    replace hq := hid hq
    replace hll := hid hll
    go_enter Tryz.func52, Tryz.ntmps52
    go_wp2_with fail
    with_reducible refine (stepWork_any (w0 := w0) hm' hw').mono ?_
    rw [hq.out]
    rintro e w1 ⟨u, rfl, hX, e1⟩
    have e1w : Ext w w1 := Ext.trans inferInstance e1
    have e01 : Ext w0 w1 := Ext.trans ‹Ext w0 w› e1w
    have hw1 := hw'.ext (e := e01)
    generalize stL M k ws r = X at *
    obtain ⟨du, mu, rfl, lu⟩ := hX.form
    clear x0
    go_wp2
    go_loopw [12, 27] (fun m i wr => ∃ q : Nat, q ≤ X.length ∧ i = .int .i64 q ∧ m = .int .i64 (grwTo ws X q) ∧ w1 = wr) (fun _ i _ => X.length - (intOf i).toNat)
    case atStart => exact ⟨0, by omega, rfl, rfl, rfl⟩
    case round =>
      obtain ⟨q, hq2, rfl, rfl, rfl⟩ := hrel
      by_cases hlt : q < X.length
      · have hqw : q < ws.length := by rw [hll.out]; exact hlt
        obtain ⟨bw, ow, hdw, hcw⟩ := hw1.at (w' := w1) hqw
        subst hdw
        obtain ⟨bn, on, hdn, hcn⟩ := hX.at (w' := w1) hlt
        subst hdn
        have h1 := hb1.out q hqw
        have h2 := hb2.out q hlt
        obtain ⟨g2, hg2⟩ : ∃ z, z = grwTo ws X (q + 1) := ⟨_, rfl⟩
        have hgn := hid (show g2 = max (grwTo ws X q) (nth X q - nth ws q) from hg2)
        replace hg2 := hid hg2
        have hgi := (grw_spec (ws := ws) (nx := X) q).1
        generalize grwTo ws X q = g at *
        generalize nth ws q = x at *
        generalize nth X q = y at *
        by_cases hc : g < y - x
        · go_wp2_with fail
          go_roundw
          case rel => exact ⟨q + 1, by omega, by go_num, by rw [← hg2.out, hgn.out], trivial⟩
          case measure => simp [intOf]; omega
        · go_wp2_with fail
          go_roundw
          case rel => exact ⟨q + 1, by omega, by go_num, by rw [← hg2.out, hgn.out], trivial⟩
          case measure => simp [intOf]; omega
      · have hqe : q = X.length := by omega
        subst hqe
        rw [← hr.out]
        go_wp2_with fail
        go_ret2
        exact ⟨ret_tuple2 rfl rfl, e1w⟩
end Go.Proofs.YtmgcfnciejfpbaaGreat
