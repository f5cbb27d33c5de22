/- The configuration whose value grows the most: program and reference. -/
import Derived.Test.YtmgcfnciejfpbaaGreatQGwP
import Derived.Test.YtmgcfnciejfpbaaGreatQWkI
namespace Go.Proofs.YtmgcfnciejfpbaaGreat
open Go.RowKit

theorem ds_bound {M : List (List Int)} {x : List Int} {r : Int} (hd : Dst M M.length) (hx : Pts M.length x) (hr : 0 ≤ r ∧ r < (M.length : Int)) (hl : x.length ≤ 3) {i : Nat} (hi : i ≤ x.length) : 0 ≤ dsTo M x r i ∧ dsTo M x r i ≤ 297 := by
  have := sum_in hd hx hr i hi
  omega
set_option maxHeartbeats 1600000 in
set_option maxRecDepth 100000 in
theorem l7Sum_any {v vx : Value} {M : List (List Int)} {x : List Int} {rn : Nat} {w0 w : World} [e0 : Ext w0 w] (hm : IsMet w0 v M) (hM : metB M = true) (hx : IsInts w0 vx x) (hp : Pts M.length x) (hl3 : x.length ≤ 3) (hrn : rn < M.length) :
    Calls Tryz.prog 154 #[v, vx, .int .i64 rn] w fun e w' => e = .returned (.int .i64 (dsTo M x rn x.length)) ∧ Ext w w' := by
  obtain ⟨v1, rfl, hR⟩ := hm
  obtain ⟨a1, c1, rfl, l1⟩ := hR.form
  obtain ⟨dx, mx, rfl, lx⟩ := hx.form
  have hdst := hid (dst_of_met hM)
  have hMr := hid (fun (y : Nat) (hy : y < M.length) => met_row hM hy)
  have hMl := met_len hM
  have hbd := hid (fun (i : Nat) (hi : i ≤ x.length) => ds_bound (r := (rn : Int)) hdst.out hp (by omega) hl3 hi)
  replace hM := hid hM
  have x0 : (w.alloc (.cells #[.slice a1 M.length c1] 26)).cell? ⟨w.heap.size, 0, none⟩ = some (.slice a1 M.length c1) := by go_simp
  have e1 : Ext w (w.alloc (.cells #[.slice a1 M.length c1] 26)) := inferInstance
  go_enter Tryz.func154, Tryz.ntmps154
  go_upto_region 1 with fail
  generalize w.heap.size = bx at *
  generalize w.alloc (.cells #[.slice a1 M.length c1] 26) = w1 at *
  go_wp2_with fail
  go_loopw [7, 8] (fun m i wr => ∃ q : Nat, q ≤ x.length ∧ i = .int .i64 q ∧ m = .int .i64 (dsTo M x rn q) ∧ Ext w1 wr) (fun _ i _ => x.length - (intOf i).toNat)
  case atStart => exact ⟨0, by omega, rfl, rfl, Ext.refl _⟩
  case round =>
    obtain ⟨q, hq, rfl, rfl, hy⟩ := hrel
    obtain ⟨wq, rfl⟩ : ∃ y : World, y = wr := ⟨_, rfl⟩
    have e0q : Ext w0 wq := Ext.trans e0 (Ext.trans e1 hy)
    by_cases hlt : q < x.length
    · obtain ⟨bc, oc, p, hd1, hpe, hpM, hcc⟩ := hx.pt (w' := wq) hp (k := q) hlt
      subst hd1
      obtain ⟨bM, oM, dR, mR, hdM, hcM, hiR, _⟩ := hR.at (w' := wq) (k := p) hpM
      subst hdM
      have hRl : rn < (row M p).length := by rw [hMr.out p hpM]; exact hrn
      obtain ⟨bR, oR, hdR, hcR⟩ := hiR.at (w' := wq) (k := rn) hRl
      subst hdR
      have h1 := hbd.out q (by omega)
      have h2 : 0 ≤ nth (row M p) rn ∧ nth (row M p) rn ≤ 99 := hdst.out.pos p rn hpM hrn
      obtain ⟨g2, hg2⟩ : ∃ z, z = dsTo M x rn (q + 1) := ⟨_, rfl⟩
      have hgn := hid (show g2 = dsTo M x rn q + nth (row M p) rn by
        rw [hg2, dsTo, hpe]
        rfl)
      replace hg2 := hid hg2
      replace hpe := hid hpe
      generalize dsTo M x rn q = g at *
      obtain ⟨dc, hdc⟩ : ∃ y, y = nth (row M p) rn := ⟨_, rfl⟩
      rw [← hdc] at hcR hgn h2
      replace hdc := hid hdc
      obtain ⟨Rx, hRx⟩ : ∃ y, y = row M p := ⟨_, rfl⟩
      rw [← hRx] at hcM hiR hRl
      replace hRx := hid hRx
      have xq := hy.cell x0
      have hSx := hid (show ∀ u, Ext wq u → u.cell? ⟨bx, 0, none⟩ = some (.slice (some ⟨bM, oM, none⟩) M.length c1) ∧ u.cell? ⟨bc, oc + q, none⟩ = some (.int .i64 p) ∧ u.cell? ⟨bM, oM + p, none⟩ = some (.slice (some ⟨bR, oR, none⟩) Rx.length mR) ∧ u.cell? ⟨bR, oR + rn, none⟩ = some (.int .i64 dc) from fun u e => ⟨e.cell xq, e.cell hcc, e.cell hcM, e.cell hcR⟩)
      go_upto_region 5 with fail
      clear hcc hcM hcR xq
      refine region_held_from (w0 := wq) (S := fun u => u.cell? ⟨bx, 0, none⟩ = some (.slice (some ⟨bM, oM, none⟩) M.length c1) ∧ u.cell? ⟨bc, oc + q, none⟩ = some (.int .i64 p) ∧ u.cell? ⟨bM, oM + p, none⟩ = some (.slice (some ⟨bR, oR, none⟩) Rx.length mR) ∧ u.cell? ⟨bR, oR + rn, none⟩ = some (.int .i64 dc)) (by kernel_rfl) hSx.out (fun wd ed hHeld0 => ?_)
      refine wpAnyH_take (i := 0) (v := .int .i64 g) rfl (by kernel_rfl) (by kernel_rfl) (by kernel_rfl) (fun _ _ _ h => h) (Or.inl ⟨by rfl, by intro wx hx; go_simp⟩) (by assumption) ?_
      try simp only [List.getElem_toArray, List.getElem_cons_zero, Act.put, List.setIfInBounds_toArray, List.set_cons_zero, List.set_cons_succ]
      refine wpAnyH_take (i := 1) (v := .pointer (some ⟨bx, 0, none⟩)) rfl (by kernel_rfl) (by kernel_rfl) (by kernel_rfl) (fun _ _ _ h => h) (Or.inl ⟨by rfl, by intro wx hx; go_simp⟩) (by assumption) ?_
      try simp only [List.getElem_toArray, List.getElem_cons_succ, List.getElem_cons_zero, Act.put, List.setIfInBounds_toArray, List.set_cons_zero, List.set_cons_succ]
      refine wpAnyH_take (i := 2) (v := .slice (some ⟨bM, oM, none⟩) M.length c1) rfl (by kernel_rfl) (by kernel_rfl) (by kernel_rfl) (fun _ _ _ h => h) (Or.inl ⟨by rfl, by intro wx hx; obtain ⟨_, _, _, _⟩ := hx; go_simp⟩) (by assumption) ?_
      try simp only [List.getElem_toArray, List.getElem_cons_succ, List.getElem_cons_zero, Act.put, List.setIfInBounds_toArray, List.set_cons_zero, List.set_cons_succ]
      refine wpAnyH_take (i := 3) (v := .slice (some ⟨bc, oc, none⟩) x.length mx) rfl (by kernel_rfl) (by kernel_rfl) (by kernel_rfl) (fun _ _ _ h => h) (Or.inl ⟨by rfl, by intro wx hx; go_simp⟩) (by assumption) ?_
      try simp only [List.getElem_toArray, List.getElem_cons_succ, List.getElem_cons_zero, Act.put, List.setIfInBounds_toArray, List.set_cons_zero, List.set_cons_succ]
      refine wpAnyH_take (i := 4) (v := .int .i64 q) rfl (by kernel_rfl) (by kernel_rfl) (by kernel_rfl) (fun _ _ _ h => h) (Or.inl ⟨by rfl, by intro wx hx; go_simp⟩) (by assumption) ?_
      try simp only [List.getElem_toArray, List.getElem_cons_succ, List.getElem_cons_zero, Act.put, List.setIfInBounds_toArray, List.set_cons_zero, List.set_cons_succ]
      refine wpAnyH_take (i := 5) (v := .pointer (some ⟨bc, oc + q, none⟩)) rfl (by kernel_rfl) (by kernel_rfl) (by kernel_rfl) (fun _ _ _ h => h) (Or.inl ⟨by rfl, by intro wx hx; go_simp⟩) (by assumption) ?_
      try simp only [List.getElem_toArray, List.getElem_cons_succ, List.getElem_cons_zero, Act.put, List.setIfInBounds_toArray, List.set_cons_zero, List.set_cons_succ]
      refine wpAnyH_take (i := 6) (v := .int .i64 p) rfl (by kernel_rfl) (by kernel_rfl) (by kernel_rfl) (fun _ _ _ h => h) (Or.inl ⟨by rfl, by intro wx hx; obtain ⟨_, _, _, _⟩ := hx; go_simp⟩) (by assumption) ?_
      try simp only [List.getElem_toArray, List.getElem_cons_succ, List.getElem_cons_zero, Act.put, List.setIfInBounds_toArray, List.set_cons_zero, List.set_cons_succ]
      refine wpAnyH_take (i := 7) (v := .pointer (some ⟨bM, oM + p, none⟩)) rfl (by kernel_rfl) (by kernel_rfl) (by kernel_rfl) (fun _ _ _ h => h) (Or.inl ⟨by rfl, by intro wx hx; go_simp⟩) (by assumption) ?_
      try simp only [List.getElem_toArray, List.getElem_cons_succ, List.getElem_cons_zero, Act.put, List.setIfInBounds_toArray, List.set_cons_zero, List.set_cons_succ]
      refine wpAnyH_take (i := 8) (v := .slice (some ⟨bR, oR, none⟩) Rx.length mR) rfl (by kernel_rfl) (by kernel_rfl) (by kernel_rfl) (fun _ _ _ h => h) (Or.inl ⟨by rfl, by intro wx hx; obtain ⟨_, _, _, _⟩ := hx; go_simp⟩) (by assumption) ?_
      try simp only [List.getElem_toArray, List.getElem_cons_succ, List.getElem_cons_zero, Act.put, List.setIfInBounds_toArray, List.set_cons_zero, List.set_cons_succ]
      refine wpAnyH_take (i := 9) (v := .int .i64 rn) rfl (by kernel_rfl) (by kernel_rfl) (by kernel_rfl) (fun _ _ _ h => h) (Or.inl ⟨by rfl, by intro wx hx; go_simp⟩) (by assumption) ?_
      try simp only [List.getElem_toArray, List.getElem_cons_succ, List.getElem_cons_zero, Act.put, List.setIfInBounds_toArray, List.set_cons_zero, List.set_cons_succ]
      refine wpAnyH_take (i := 10) (v := .pointer (some ⟨bR, oR + rn, none⟩)) rfl (by kernel_rfl) (by kernel_rfl) (by kernel_rfl) (fun _ _ _ h => h) (Or.inl ⟨by rfl, by intro wx hx; go_simp⟩) (by assumption) ?_
      try simp only [List.getElem_toArray, List.getElem_cons_succ, List.getElem_cons_zero, Act.put, List.setIfInBounds_toArray, List.set_cons_zero, List.set_cons_succ]
      refine wpAnyH_take (i := 11) (v := .int .i64 dc) rfl (by kernel_rfl) (by kernel_rfl) (by kernel_rfl) (fun _ _ _ h => h) (Or.inl ⟨by rfl, by intro wx hx; obtain ⟨_, _, _, _⟩ := hx; go_simp⟩) (by assumption) ?_
      try simp only [List.getElem_toArray, List.getElem_cons_succ, List.getElem_cons_zero, Act.put, List.setIfInBounds_toArray, List.set_cons_zero, List.set_cons_succ]
      refine wpAnyH_take (i := 12) (v := .int .i64 (g + dc)) rfl (by kernel_rfl) (by kernel_rfl) (by kernel_rfl) (fun _ _ _ h => h) (Or.inl ⟨by rfl, by intro wx hx; (go_simp; exact IntWalk.i64_in _ (by omega))⟩) (by assumption) ?_
      try simp only [List.getElem_toArray, List.getElem_cons_succ, List.getElem_cons_zero, Act.put, List.setIfInBounds_toArray, List.set_cons_zero, List.set_cons_succ]
      refine wpAnyH_take (i := 13) (v := .int .i64 (g + dc)) rfl (by kernel_rfl) (by kernel_rfl) (by kernel_rfl) (fun _ _ _ h => h) (Or.inl ⟨by rfl, by intro wx hx; go_simp⟩) (by assumption) ?_
      try simp only [List.getElem_toArray, List.getElem_cons_succ, List.getElem_cons_zero, Act.put, List.setIfInBounds_toArray, List.set_cons_zero, List.set_cons_succ]
      refine wpAnyH_done (by kernel_rfl) ?_ _
      clear hSx hHeld0
      go_wp2_with fail
      go_roundw
      case rel => exact ⟨q + 1, by omega, by go_num, by rw [← hg2.out, hgn.out], Ext.trans hy ed⟩
      case measure => simp [intOf]; omega
    · have hqe : q = x.length := by omega
      subst hqe
      go_wp2_with fail
      go_ret
      exact ⟨rfl, Ext.trans e1 hy⟩
set_option maxHeartbeats 1600000 in
set_option maxRecDepth 100000 in
theorem l7Far_any {v vP vw : Value} {M P : List (List Int)} {ws : List Int} {rn : Nat} {w0 w : World} [e0 : Ext w0 w] (hm : IsMet w0 v M) (hM : metB M = true) (hP : IsRows w0 vP P) (hw : IsInts w0 vw ws) (hPm : ∀ i, i < P.length → (row P i).length ≤ 3 ∧ Pts M.length (row P i)) (h1P : 1 ≤ P.length) (hlw : ws.length = P.length) (hwb : ∀ j, j < ws.length → 0 ≤ nth ws j ∧ nth ws j ≤ 1000000) (hrn : rn < M.length) :
    Calls Tryz.prog 118 #[v, vP, vw, .int .i64 rn] w fun e w' => e = .returned (.int .i64 (farTo M P ws rn P.length)) ∧ Ext w w' := by
  have hm' := hm
  obtain ⟨v1, rfl, hR⟩ := hm
  obtain ⟨a1, c1, rfl, l1⟩ := hR.form
  obtain ⟨aP, cP, rfl, lP⟩ := hP.form
  obtain ⟨dw, mw, rfl, lw⟩ := hw.form
  have hdst := hid (dst_of_met hM)
  replace hM := hid hM
  replace hPm := hid hPm
  replace hlw := hid hlw
  replace hwb := hid hwb
  obtain ⟨bP, oP, _, _, hdP, _, _, _⟩ := hP.at (w' := w) (k := 0) (by omega)
  subst hdP
  obtain ⟨bw, ow, hdw, _⟩ := hw.at (w' := w) (k := 0) (by rw [hlw.out]; omega)
  subst hdw
  have x0 : (w.alloc (.cells #[.slice a1 M.length c1] 26)).cell? ⟨w.heap.size, 0, none⟩ = some (.slice a1 M.length c1) := by go_simp
  have e1 : Ext w (w.alloc (.cells #[.slice a1 M.length c1] 26)) := inferInstance
  go_enter Tryz.func118, Tryz.ntmps118
  go_upto_region 1 with fail
  generalize w.heap.size = bx at *
  generalize w.alloc (.cells #[.slice a1 M.length c1] 26) = w1 at *
  go_wp2_with fail
  go_loopw [9, 10] (fun m i wr => ∃ q f : Nat, 1 ≤ q ∧ q ≤ P.length ∧ i = .int .i64 q ∧ m = .int .i64 f ∧ f < q ∧ Hid (f = farTo M P ws rn q) ∧ Ext w1 wr) (fun _ i _ => P.length - (intOf i).toNat)
  case atStart => exact ⟨1, 0, by omega, by omega, rfl, rfl, by omega, hid far_one.symm, Ext.refl _⟩
  case round =>
    obtain ⟨q, f, hq1, hq, rfl, rfl, hfq, hf, hy⟩ := hrel
    obtain ⟨wq, rfl⟩ : ∃ y : World, y = wr := ⟨_, rfl⟩
    have e0q : Ext w0 wq := Ext.trans e0 (Ext.trans e1 hy)
    by_cases hlt : q < P.length
    · have hfl : f < P.length := by omega
      have hqw : q < ws.length := by rw [hlw.out]; exact hlt
      have hfw : f < ws.length := by rw [hlw.out]; exact hfl
      obtain ⟨bP1, oP1, dc, mc, hd1, hc1, hi1, _⟩ := hP.at (w' := wq) (k := q) hlt
      cases hd1
      obtain ⟨bP2, oP2, df, mf, hd2, hc2, hi2, _⟩ := hP.at (w' := wq) (k := f) hfl
      cases hd2
      obtain ⟨bw1, ow1, hd3, hcw1⟩ := hw.at (w' := wq) hqw
      cases hd3
      obtain ⟨bw2, ow2, hd4, hcw2⟩ := hw.at (w' := wq) hfw
      cases hd4
      have p1 := hPm.out q hlt
      have p2 := hPm.out f hfl
      have w1b := hwb.out q hqw
      have w2b := hwb.out f hfw
      have s1b := ds_bound (M := M) (x := row P q) (r := (rn : Int)) hdst.out p1.2 (by omega) p1.1 (Nat.le_refl _)
      have s2b := ds_bound (M := M) (x := row P f) (r := (rn : Int)) hdst.out p2.2 (by omega) p2.1 (Nat.le_refl _)
      obtain ⟨f2, hf2⟩ : ∃ z, z = farTo M P ws rn (q + 1) := ⟨_, rfl⟩
      have hnx := hid (show f2 = if nth ws q - dsTo M (row P q) rn (row P q).length < nth ws f - dsTo M (row P f) rn (row P f).length then q else f by
        rw [hf2, farTo, ← hf.out]
        rfl)
      replace hf2 := hid hf2
      generalize nth ws q = x1 at *
      generalize nth ws f = x2 at *
      have hs1e := hid (rfl : dsTo M (row P q) rn (row P q).length = dsTo M (row P q) rn (row P q).length)
      obtain ⟨s1, hs1⟩ : ∃ z, z = dsTo M (row P q) rn (row P q).length := ⟨_, rfl⟩
      obtain ⟨s2, hs2⟩ : ∃ z, z = dsTo M (row P f) rn (row P f).length := ⟨_, rfl⟩
      rw [← hs1] at hnx s1b
      rw [← hs2] at hnx s2b
      clear hs1e
      obtain ⟨A, hA⟩ : ∃ z, z = row P q := ⟨_, rfl⟩
      obtain ⟨F, hF⟩ : ∃ z, z = row P f := ⟨_, rfl⟩
      rw [← hA] at hc1 hi1 p1 hs1
      rw [← hF] at hc2 hi2 p2 hs2
      replace hA := hid hA
      replace hF := hid hF
      replace hs1 := hid hs1
      replace hs2 := hid hs2
      have xq := hy.cell x0
      have hSx := hid (show ∀ u, Ext wq u → u.cell? ⟨bx, 0, none⟩ = some (.slice a1 M.length c1) ∧ u.cell? ⟨bw, ow + q, none⟩ = some (.int .i64 x1) ∧ u.cell? ⟨bw, ow + f, none⟩ = some (.int .i64 x2) ∧ u.cell? ⟨bP, oP + q, none⟩ = some (.slice dc A.length mc) ∧ u.cell? ⟨bP, oP + f, none⟩ = some (.slice df F.length mf) from fun u e => ⟨e.cell xq, e.cell hcw1, e.cell hcw2, e.cell hc1, e.cell hc2⟩)
      go_upto_region 5 with fail
      clear hcw1 hcw2 hc1 hc2 xq
      by_cases hless : x1 - s1 < x2 - s2
      · have hfe := hid (show f2 = q by rw [hnx.out, if_pos hless])
        have hdec : decide (x1 - s1 < x2 - s2) = true := decide_eq_true hless
        refine region_held_from (w0 := wq) (S := fun u => u.cell? ⟨bx, 0, none⟩ = some (.slice a1 M.length c1) ∧ u.cell? ⟨bw, ow + q, none⟩ = some (.int .i64 x1) ∧ u.cell? ⟨bw, ow + f, none⟩ = some (.int .i64 x2) ∧ u.cell? ⟨bP, oP + q, none⟩ = some (.slice dc A.length mc) ∧ u.cell? ⟨bP, oP + f, none⟩ = some (.slice df F.length mf)) (by kernel_rfl) hSx.out (fun wd ed hHeld0 => ?_)
        have e0d : Ext w0 wd := Ext.trans e0q ed
        refine wpAnyH_take (i := 0) (v := .slice (some ⟨bw, ow, none⟩) ws.length mw) rfl (by kernel_rfl) (by kernel_rfl) (by kernel_rfl) (fun _ _ _ h => h) (Or.inl ⟨by rfl, by intro wx hx; go_simp⟩) (by assumption) ?_
        try simp only [List.getElem_toArray, List.getElem_cons_zero, Act.put, List.setIfInBounds_toArray, List.set_cons_zero, List.set_cons_succ]
        refine wpAnyH_take (i := 1) (v := .int .i64 q) rfl (by kernel_rfl) (by kernel_rfl) (by kernel_rfl) (fun _ _ _ h => h) (Or.inl ⟨by rfl, by intro wx hx; go_simp⟩) (by assumption) ?_
        try simp only [List.getElem_toArray, List.getElem_cons_succ, List.getElem_cons_zero, Act.put, List.setIfInBounds_toArray, List.set_cons_zero, List.set_cons_succ]
        refine wpAnyH_take (i := 2) (v := .pointer (some ⟨bw, ow + q, none⟩)) rfl (by kernel_rfl) (by kernel_rfl) (by kernel_rfl) (fun _ _ _ h => h) (Or.inl ⟨by rfl, by intro wx hx; go_simp⟩) (by assumption) ?_
        try simp only [List.getElem_toArray, List.getElem_cons_succ, List.getElem_cons_zero, Act.put, List.setIfInBounds_toArray, List.set_cons_zero, List.set_cons_succ]
        refine wpAnyH_take (i := 3) (v := .int .i64 x1) rfl (by kernel_rfl) (by kernel_rfl) (by kernel_rfl) (fun _ _ _ h => h) (Or.inl ⟨by rfl, by intro wx hx; obtain ⟨_, _, _, _, _⟩ := hx; go_simp⟩) (by assumption) ?_
        try simp only [List.getElem_toArray, List.getElem_cons_succ, List.getElem_cons_zero, Act.put, List.setIfInBounds_toArray, List.set_cons_zero, List.set_cons_succ]
        refine wpAnyH_take (i := 4) (v := .agg #[.slice a1 M.length c1]) rfl (by kernel_rfl) (by kernel_rfl) (by kernel_rfl) (fun _ _ _ h => h) (Or.inl ⟨by rfl, by intro wx hx; obtain ⟨_, _, _, _, _⟩ := hx; go_simp⟩) (by assumption) ?_
        try simp only [List.getElem_toArray, List.getElem_cons_succ, List.getElem_cons_zero, Act.put, List.setIfInBounds_toArray, List.set_cons_zero, List.set_cons_succ]
        refine wpAnyH_take (i := 5) (v := .slice (some ⟨bP, oP, none⟩) P.length cP) rfl (by kernel_rfl) (by kernel_rfl) (by kernel_rfl) (fun _ _ _ h => h) (Or.inl ⟨by rfl, by intro wx hx; go_simp⟩) (by assumption) ?_
        try simp only [List.getElem_toArray, List.getElem_cons_succ, List.getElem_cons_zero, Act.put, List.setIfInBounds_toArray, List.set_cons_zero, List.set_cons_succ]
        refine wpAnyH_take (i := 6) (v := .int .i64 q) rfl (by kernel_rfl) (by kernel_rfl) (by kernel_rfl) (fun _ _ _ h => h) (Or.inl ⟨by rfl, by intro wx hx; go_simp⟩) (by assumption) ?_
        try simp only [List.getElem_toArray, List.getElem_cons_succ, List.getElem_cons_zero, Act.put, List.setIfInBounds_toArray, List.set_cons_zero, List.set_cons_succ]
        refine wpAnyH_take (i := 7) (v := .pointer (some ⟨bP, oP + q, none⟩)) rfl (by kernel_rfl) (by kernel_rfl) (by kernel_rfl) (fun _ _ _ h => h) (Or.inl ⟨by rfl, by intro wx hx; go_simp⟩) (by assumption) ?_
        try simp only [List.getElem_toArray, List.getElem_cons_succ, List.getElem_cons_zero, Act.put, List.setIfInBounds_toArray, List.set_cons_zero, List.set_cons_succ]
        refine wpAnyH_take (i := 8) (v := .slice dc A.length mc) rfl (by kernel_rfl) (by kernel_rfl) (by kernel_rfl) (fun _ _ _ h => h) (Or.inl ⟨by rfl, by intro wx hx; obtain ⟨_, _, _, _, _⟩ := hx; go_simp⟩) (by assumption) ?_
        try simp only [List.getElem_toArray, List.getElem_cons_succ, List.getElem_cons_zero, Act.put, List.setIfInBounds_toArray, List.set_cons_zero, List.set_cons_succ]
        refine wpAnyH_take (i := 9) (v := .int .i64 rn) rfl (by kernel_rfl) (by kernel_rfl) (by kernel_rfl) (fun _ _ _ h => h) (Or.inl ⟨by rfl, by intro wx hx; go_simp⟩) (by assumption) ?_
        try simp only [List.getElem_toArray, List.getElem_cons_succ, List.getElem_cons_zero, Act.put, List.setIfInBounds_toArray, List.set_cons_zero, List.set_cons_succ]
        refine wpAnyH_take (i := 12) (v := .slice (some ⟨bw, ow, none⟩) ws.length mw) rfl (by kernel_rfl) (by kernel_rfl) (by kernel_rfl) (fun _ _ _ h => h) (Or.inl ⟨by rfl, by intro wx hx; go_simp⟩) (by assumption) ?_
        try simp only [List.getElem_toArray, List.getElem_cons_succ, List.getElem_cons_zero, Act.put, List.setIfInBounds_toArray, List.set_cons_zero, List.set_cons_succ]
        refine wpAnyH_take (i := 13) (v := .int .i64 f) rfl (by kernel_rfl) (by kernel_rfl) (by kernel_rfl) (fun _ _ _ h => h) (Or.inl ⟨by rfl, by intro wx hx; go_simp⟩) (by assumption) ?_
        try simp only [List.getElem_toArray, List.getElem_cons_succ, List.getElem_cons_zero, Act.put, List.setIfInBounds_toArray, List.set_cons_zero, List.set_cons_succ]
        refine wpAnyH_take (i := 14) (v := .pointer (some ⟨bw, ow + f, none⟩)) rfl (by kernel_rfl) (by kernel_rfl) (by kernel_rfl) (fun _ _ _ h => h) (Or.inl ⟨by rfl, by intro wx hx; go_simp⟩) (by assumption) ?_
        try simp only [List.getElem_toArray, List.getElem_cons_succ, List.getElem_cons_zero, Act.put, List.setIfInBounds_toArray, List.set_cons_zero, List.set_cons_succ]
        refine wpAnyH_take (i := 15) (v := .int .i64 x2) rfl (by kernel_rfl) (by kernel_rfl) (by kernel_rfl) (fun _ _ _ h => h) (Or.inl ⟨by rfl, by intro wx hx; obtain ⟨_, _, _, _, _⟩ := hx; go_simp⟩) (by assumption) ?_
        try simp only [List.getElem_toArray, List.getElem_cons_succ, List.getElem_cons_zero, Act.put, List.setIfInBounds_toArray, List.set_cons_zero, List.set_cons_succ]
        refine wpAnyH_take (i := 16) (v := .agg #[.slice a1 M.length c1]) rfl (by kernel_rfl) (by kernel_rfl) (by kernel_rfl) (fun _ _ _ h => h) (Or.inl ⟨by rfl, by intro wx hx; obtain ⟨_, _, _, _, _⟩ := hx; go_simp⟩) (by assumption) ?_
        try simp only [List.getElem_toArray, List.getElem_cons_succ, List.getElem_cons_zero, Act.put, List.setIfInBounds_toArray, List.set_cons_zero, List.set_cons_succ]
        refine wpAnyH_take (i := 17) (v := .slice (some ⟨bP, oP, none⟩) P.length cP) rfl (by kernel_rfl) (by kernel_rfl) (by kernel_rfl) (fun _ _ _ h => h) (Or.inl ⟨by rfl, by intro wx hx; go_simp⟩) (by assumption) ?_
        try simp only [List.getElem_toArray, List.getElem_cons_succ, List.getElem_cons_zero, Act.put, List.setIfInBounds_toArray, List.set_cons_zero, List.set_cons_succ]
        refine wpAnyH_take (i := 18) (v := .int .i64 f) rfl (by kernel_rfl) (by kernel_rfl) (by kernel_rfl) (fun _ _ _ h => h) (Or.inl ⟨by rfl, by intro wx hx; go_simp⟩) (by assumption) ?_
        try simp only [List.getElem_toArray, List.getElem_cons_succ, List.getElem_cons_zero, Act.put, List.setIfInBounds_toArray, List.set_cons_zero, List.set_cons_succ]
        refine wpAnyH_take (i := 19) (v := .pointer (some ⟨bP, oP + f, none⟩)) rfl (by kernel_rfl) (by kernel_rfl) (by kernel_rfl) (fun _ _ _ h => h) (Or.inl ⟨by rfl, by intro wx hx; go_simp⟩) (by assumption) ?_
        try simp only [List.getElem_toArray, List.getElem_cons_succ, List.getElem_cons_zero, Act.put, List.setIfInBounds_toArray, List.set_cons_zero, List.set_cons_succ]
        refine wpAnyH_take (i := 20) (v := .slice df F.length mf) rfl (by kernel_rfl) (by kernel_rfl) (by kernel_rfl) (fun _ _ _ h => h) (Or.inl ⟨by rfl, by intro wx hx; obtain ⟨_, _, _, _, _⟩ := hx; go_simp⟩) (by assumption) ?_
        try simp only [List.getElem_toArray, List.getElem_cons_succ, List.getElem_cons_zero, Act.put, List.setIfInBounds_toArray, List.set_cons_zero, List.set_cons_succ]
        refine wpAnyH_take (i := 21) (v := .int .i64 rn) rfl (by kernel_rfl) (by kernel_rfl) (by kernel_rfl) (fun _ _ _ h => h) (Or.inl ⟨by rfl, by intro wx hx; go_simp⟩) (by assumption) ?_
        try simp only [List.getElem_toArray, List.getElem_cons_succ, List.getElem_cons_zero, Act.put, List.setIfInBounds_toArray, List.set_cons_zero, List.set_cons_succ]
        refine wpAnyH_ready (rs := [10]) (by kernel_rfl) (by simp) ?_
        refine AllReadyH.cons rfl (fun K hK => ?_) AllReadyH.nil
        go_simp
        go_at_call 154
        with_reducible refine (l7Sum_any (w0 := w0) (w := wd) hm' hM.out hi1 p1.2 p1.1 hrn).mono ?_
        rw [← hs1.out]
        rintro e w5 ⟨rfl, e5⟩
        have hS5 := hid (hSx.out w5 (Ext.trans ed e5))
        have e05 : Ext w0 w5 := Ext.trans e0d e5
        go_wp2_with fail
        refine hK.out _ _ hS5.out (fun _ => ?_)
        clear hK K
        try simp only [List.getElem_toArray, List.getElem_cons_succ, List.getElem_cons_zero, Act.put, List.setIfInBounds_toArray, List.set_cons_zero, List.set_cons_succ]
        refine wpAnyH_take (i := 11) (v := .int .i64 (x1 - s1)) rfl (by kernel_rfl) (by kernel_rfl) (by kernel_rfl) (fun _ _ _ h => h) (Or.inl ⟨by rfl, by intro wx hx; (go_simp; exact IntWalk.i64_in _ (by omega))⟩) (by assumption) ?_
        try simp only [List.getElem_toArray, List.getElem_cons_succ, List.getElem_cons_zero, Act.put, List.setIfInBounds_toArray, List.set_cons_zero, List.set_cons_succ]
        refine wpAnyH_ready (rs := [22]) (by kernel_rfl) (by simp) ?_
        refine AllReadyH.cons rfl (fun K hK => ?_) AllReadyH.nil
        go_simp
        go_at_call 154
        with_reducible refine (l7Sum_any (w0 := w0) (w := w5) hm' hM.out hi2 p2.2 p2.1 hrn).mono ?_
        rw [← hs2.out]
        rintro e w6 ⟨rfl, e6⟩
        have hS6 := hid (hSx.out w6 (Ext.trans ed (Ext.trans e5 e6)))
        have hyz : Ext w1 w6 := Ext.trans hy (Ext.trans ed (Ext.trans e5 e6))
        go_wp2_with fail
        refine hK.out _ _ hS6.out (fun _ => ?_)
        clear hK K
        try simp only [List.getElem_toArray, List.getElem_cons_succ, List.getElem_cons_zero, Act.put, List.setIfInBounds_toArray, List.set_cons_zero, List.set_cons_succ]
        refine wpAnyH_take (i := 23) (v := .int .i64 (x2 - s2)) rfl (by kernel_rfl) (by kernel_rfl) (by kernel_rfl) (fun _ _ _ h => h) (Or.inl ⟨by rfl, by intro wx hx; (go_simp; exact IntWalk.i64_in _ (by omega))⟩) (by assumption) ?_
        try simp only [List.getElem_toArray, List.getElem_cons_succ, List.getElem_cons_zero, Act.put, List.setIfInBounds_toArray, List.set_cons_zero, List.set_cons_succ]
        refine wpAnyH_take (i := 24) (v := .bool true) rfl (by kernel_rfl) (by kernel_rfl) (by kernel_rfl) (fun _ _ _ h => h) (Or.inl ⟨by rfl, by intro wx hx; go_simp⟩) (by assumption) ?_
        try simp only [List.getElem_toArray, List.getElem_cons_succ, List.getElem_cons_zero, Act.put, List.setIfInBounds_toArray, List.set_cons_zero, List.set_cons_succ]
        refine wpAnyH_done (by kernel_rfl) ?_ _
        clear hSx hHeld0 hS5 hS6
        go_wp2_with fail
        go_roundw
        case rel => exact ⟨q + 1, q, by omega, by omega, by go_num, rfl, by omega, hid (by rw [← hf2.out, hfe.out]), hyz⟩
        case measure => simp [intOf]; omega
      · have hfe := hid (show f2 = f by rw [hnx.out, if_neg hless])
        have hdec : decide (x1 - s1 < x2 - s2) = false := decide_eq_false hless
        refine region_held_from (w0 := wq) (S := fun u => u.cell? ⟨bx, 0, none⟩ = some (.slice a1 M.length c1) ∧ u.cell? ⟨bw, ow + q, none⟩ = some (.int .i64 x1) ∧ u.cell? ⟨bw, ow + f, none⟩ = some (.int .i64 x2) ∧ u.cell? ⟨bP, oP + q, none⟩ = some (.slice dc A.length mc) ∧ u.cell? ⟨bP, oP + f, none⟩ = some (.slice df F.length mf)) (by kernel_rfl) hSx.out (fun wd ed hHeld0 => ?_)
        have e0d : Ext w0 wd := Ext.trans e0q ed
        refine wpAnyH_take (i := 0) (v := .slice (some ⟨bw, ow, none⟩) ws.length mw) rfl (by kernel_rfl) (by kernel_rfl) (by kernel_rfl) (fun _ _ _ h => h) (Or.inl ⟨by rfl, by intro wx hx; go_simp⟩) (by assumption) ?_
        try simp only [List.getElem_toArray, List.getElem_cons_zero, Act.put, List.setIfInBounds_toArray, List.set_cons_zero, List.set_cons_succ]
        refine wpAnyH_take (i := 1) (v := .int .i64 q) rfl (by kernel_rfl) (by kernel_rfl) (by kernel_rfl) (fun _ _ _ h => h) (Or.inl ⟨by rfl, by intro wx hx; go_simp⟩) (by assumption) ?_
        try simp only [List.getElem_toArray, List.getElem_cons_succ, List.getElem_cons_zero, Act.put, List.setIfInBounds_toArray, List.set_cons_zero, List.set_cons_succ]
        refine wpAnyH_take (i := 2) (v := .pointer (some ⟨bw, ow + q, none⟩)) rfl (by kernel_rfl) (by kernel_rfl) (by kernel_rfl) (fun _ _ _ h => h) (Or.inl ⟨by rfl, by intro wx hx; go_simp⟩) (by assumption) ?_
        try simp only [List.getElem_toArray, List.getElem_cons_succ, List.getElem_cons_zero, Act.put, List.setIfInBounds_toArray, List.set_cons_zero, List.set_cons_succ]
        refine wpAnyH_take (i := 3) (v := .int .i64 x1) rfl (by kernel_rfl) (by kernel_rfl) (by kernel_rfl) (fun _ _ _ h => h) (Or.inl ⟨by rfl, by intro wx hx; obtain ⟨_, _, _, _, _⟩ := hx; go_simp⟩) (by assumption) ?_
        try simp only [List.getElem_toArray, List.getElem_cons_succ, List.getElem_cons_zero, Act.put, List.setIfInBounds_toArray, List.set_cons_zero, List.set_cons_succ]
        refine wpAnyH_take (i := 4) (v := .agg #[.slice a1 M.length c1]) rfl (by kernel_rfl) (by kernel_rfl) (by kernel_rfl) (fun _ _ _ h => h) (Or.inl ⟨by rfl, by intro wx hx; obtain ⟨_, _, _, _, _⟩ := hx; go_simp⟩) (by assumption) ?_
        try simp only [List.getElem_toArray, List.getElem_cons_succ, List.getElem_cons_zero, Act.put, List.setIfInBounds_toArray, List.set_cons_zero, List.set_cons_succ]
        refine wpAnyH_take (i := 5) (v := .slice (some ⟨bP, oP, none⟩) P.length cP) rfl (by kernel_rfl) (by kernel_rfl) (by kernel_rfl) (fun _ _ _ h => h) (Or.inl ⟨by rfl, by intro wx hx; go_simp⟩) (by assumption) ?_
        try simp only [List.getElem_toArray, List.getElem_cons_succ, List.getElem_cons_zero, Act.put, List.setIfInBounds_toArray, List.set_cons_zero, List.set_cons_succ]
        refine wpAnyH_take (i := 6) (v := .int .i64 q) rfl (by kernel_rfl) (by kernel_rfl) (by kernel_rfl) (fun _ _ _ h => h) (Or.inl ⟨by rfl, by intro wx hx; go_simp⟩) (by assumption) ?_
        try simp only [List.getElem_toArray, List.getElem_cons_succ, List.getElem_cons_zero, Act.put, List.setIfInBounds_toArray, List.set_cons_zero, List.set_cons_succ]
        refine wpAnyH_take (i := 7) (v := .pointer (some ⟨bP, oP + q, none⟩)) rfl (by kernel_rfl) (by kernel_rfl) (by kernel_rfl) (fun _ _ _ h => h) (Or.inl ⟨by rfl, by intro wx hx; go_simp⟩) (by assumption) ?_
        try simp only [List.getElem_toArray, List.getElem_cons_succ, List.getElem_cons_zero, Act.put, List.setIfInBounds_toArray, List.set_cons_zero, List.set_cons_succ]
        refine wpAnyH_take (i := 8) (v := .slice dc A.length mc) rfl (by kernel_rfl) (by kernel_rfl) (by kernel_rfl) (fun _ _ _ h => h) (Or.inl ⟨by rfl, by intro wx hx; obtain ⟨_, _, _, _, _⟩ := hx; go_simp⟩) (by assumption) ?_
        try simp only [List.getElem_toArray, List.getElem_cons_succ, List.getElem_cons_zero, Act.put, List.setIfInBounds_toArray, List.set_cons_zero, List.set_cons_succ]
        refine wpAnyH_take (i := 9) (v := .int .i64 rn) rfl (by kernel_rfl) (by kernel_rfl) (by kernel_rfl) (fun _ _ _ h => h) (Or.inl ⟨by rfl, by intro wx hx; go_simp⟩) (by assumption) ?_
        try simp only [List.getElem_toArray, List.getElem_cons_succ, List.getElem_cons_zero, Act.put, List.setIfInBounds_toArray, List.set_cons_zero, List.set_cons_succ]
        refine wpAnyH_take (i := 12) (v := .slice (some ⟨bw, ow, none⟩) ws.length mw) rfl (by kernel_rfl) (by kernel_rfl) (by kernel_rfl) (fun _ _ _ h => h) (Or.inl ⟨by rfl, by intro wx hx; go_simp⟩) (by assumption) ?_
        try simp only [List.getElem_toArray, List.getElem_cons_succ, List.getElem_cons_zero, Act.put, List.setIfInBounds_toArray, List.set_cons_zero, List.set_cons_succ]
        refine wpAnyH_take (i := 13) (v := .int .i64 f) rfl (by kernel_rfl) (by kernel_rfl) (by kernel_rfl) (fun _ _ _ h => h) (Or.inl ⟨by rfl, by intro wx hx; go_simp⟩) (by assumption) ?_
        try simp only [List.getElem_toArray, List.getElem_cons_succ, List.getElem_cons_zero, Act.put, List.setIfInBounds_toArray, List.set_cons_zero, List.set_cons_succ]
        refine wpAnyH_take (i := 14) (v := .pointer (some ⟨bw, ow + f, none⟩)) rfl (by kernel_rfl) (by kernel_rfl) (by kernel_rfl) (fun _ _ _ h => h) (Or.inl ⟨by rfl, by intro wx hx; go_simp⟩) (by assumption) ?_
        try simp only [List.getElem_toArray, List.getElem_cons_succ, List.getElem_cons_zero, Act.put, List.setIfInBounds_toArray, List.set_cons_zero, List.set_cons_succ]
        refine wpAnyH_take (i := 15) (v := .int .i64 x2) rfl (by kernel_rfl) (by kernel_rfl) (by kernel_rfl) (fun _ _ _ h => h) (Or.inl ⟨by rfl, by intro wx hx; obtain ⟨_, _, _, _, _⟩ := hx; go_simp⟩) (by assumption) ?_
        try simp only [List.getElem_toArray, List.getElem_cons_succ, List.getElem_cons_zero, Act.put, List.setIfInBounds_toArray, List.set_cons_zero, List.set_cons_succ]
        refine wpAnyH_take (i := 16) (v := .agg #[.slice a1 M.length c1]) rfl (by kernel_rfl) (by kernel_rfl) (by kernel_rfl) (fun _ _ _ h => h) (Or.inl ⟨by rfl, by intro wx hx; obtain ⟨_, _, _, _, _⟩ := hx; go_simp⟩) (by assumption) ?_
        try simp only [List.getElem_toArray, List.getElem_cons_succ, List.getElem_cons_zero, Act.put, List.setIfInBounds_toArray, List.set_cons_zero, List.set_cons_succ]
        refine wpAnyH_take (i := 17) (v := .slice (some ⟨bP, oP, none⟩) P.length cP) rfl (by kernel_rfl) (by kernel_rfl) (by kernel_rfl) (fun _ _ _ h => h) (Or.inl ⟨by rfl, by intro wx hx; go_simp⟩) (by assumption) ?_
        try simp only [List.getElem_toArray, List.getElem_cons_succ, List.getElem_cons_zero, Act.put, List.setIfInBounds_toArray, List.set_cons_zero, List.set_cons_succ]
        refine wpAnyH_take (i := 18) (v := .int .i64 f) rfl (by kernel_rfl) (by kernel_rfl) (by kernel_rfl) (fun _ _ _ h => h) (Or.inl ⟨by rfl, by intro wx hx; go_simp⟩) (by assumption) ?_
        try simp only [List.getElem_toArray, List.getElem_cons_succ, List.getElem_cons_zero, Act.put, List.setIfInBounds_toArray, List.set_cons_zero, List.set_cons_succ]
        refine wpAnyH_take (i := 19) (v := .pointer (some ⟨bP, oP + f, none⟩)) rfl (by kernel_rfl) (by kernel_rfl) (by kernel_rfl) (fun _ _ _ h => h) (Or.inl ⟨by rfl, by intro wx hx; go_simp⟩) (by assumption) ?_
        try simp only [List.getElem_toArray, List.getElem_cons_succ, List.getElem_cons_zero, Act.put, List.setIfInBounds_toArray, List.set_cons_zero, List.set_cons_succ]
        refine wpAnyH_take (i := 20) (v := .slice df F.length mf) rfl (by kernel_rfl) (by kernel_rfl) (by kernel_rfl) (fun _ _ _ h => h) (Or.inl ⟨by rfl, by intro wx hx; obtain ⟨_, _, _, _, _⟩ := hx; go_simp⟩) (by assumption) ?_
        try simp only [List.getElem_toArray, List.getElem_cons_succ, List.getElem_cons_zero, Act.put, List.setIfInBounds_toArray, List.set_cons_zero, List.set_cons_succ]
        refine wpAnyH_take (i := 21) (v := .int .i64 rn) rfl (by kernel_rfl) (by kernel_rfl) (by kernel_rfl) (fun _ _ _ h => h) (Or.inl ⟨by rfl, by intro wx hx; go_simp⟩) (by assumption) ?_
        try simp only [List.getElem_toArray, List.getElem_cons_succ, List.getElem_cons_zero, Act.put, List.setIfInBounds_toArray, List.set_cons_zero, List.set_cons_succ]
        refine wpAnyH_ready (rs := [10]) (by kernel_rfl) (by simp) ?_
        refine AllReadyH.cons rfl (fun K hK => ?_) AllReadyH.nil
        go_simp
        go_at_call 154
        with_reducible refine (l7Sum_any (w0 := w0) (w := wd) hm' hM.out hi1 p1.2 p1.1 hrn).mono ?_
        rw [← hs1.out]
        rintro e w5 ⟨rfl, e5⟩
        have hS5 := hid (hSx.out w5 (Ext.trans ed e5))
        have e05 : Ext w0 w5 := Ext.trans e0d e5
        go_wp2_with fail
        refine hK.out _ _ hS5.out (fun _ => ?_)
        clear hK K
        try simp only [List.getElem_toArray, List.getElem_cons_succ, List.getElem_cons_zero, Act.put, List.setIfInBounds_toArray, List.set_cons_zero, List.set_cons_succ]
        refine wpAnyH_take (i := 11) (v := .int .i64 (x1 - s1)) rfl (by kernel_rfl) (by kernel_rfl) (by kernel_rfl) (fun _ _ _ h => h) (Or.inl ⟨by rfl, by intro wx hx; (go_simp; exact IntWalk.i64_in _ (by omega))⟩) (by assumption) ?_
        try simp only [List.getElem_toArray, List.getElem_cons_succ, List.getElem_cons_zero, Act.put, List.setIfInBounds_toArray, List.set_cons_zero, List.set_cons_succ]
        refine wpAnyH_ready (rs := [22]) (by kernel_rfl) (by simp) ?_
        refine AllReadyH.cons rfl (fun K hK => ?_) AllReadyH.nil
        go_simp
        go_at_call 154
        with_reducible refine (l7Sum_any (w0 := w0) (w := w5) hm' hM.out hi2 p2.2 p2.1 hrn).mono ?_
        rw [← hs2.out]
        rintro e w6 ⟨rfl, e6⟩
        have hS6 := hid (hSx.out w6 (Ext.trans ed (Ext.trans e5 e6)))
        have hyz : Ext w1 w6 := Ext.trans hy (Ext.trans ed (Ext.trans e5 e6))
        go_wp2_with fail
        refine hK.out _ _ hS6.out (fun _ => ?_)
        clear hK K
        try simp only [List.getElem_toArray, List.getElem_cons_succ, List.getElem_cons_zero, Act.put, List.setIfInBounds_toArray, List.set_cons_zero, List.set_cons_succ]
        refine wpAnyH_take (i := 23) (v := .int .i64 (x2 - s2)) rfl (by kernel_rfl) (by kernel_rfl) (by kernel_rfl) (fun _ _ _ h => h) (Or.inl ⟨by rfl, by intro wx hx; (go_simp; exact IntWalk.i64_in _ (by omega))⟩) (by assumption) ?_
        try simp only [List.getElem_toArray, List.getElem_cons_succ, List.getElem_cons_zero, Act.put, List.setIfInBounds_toArray, List.set_cons_zero, List.set_cons_succ]
        refine wpAnyH_take (i := 24) (v := .bool false) rfl (by kernel_rfl) (by kernel_rfl) (by kernel_rfl) (fun _ _ _ h => h) (Or.inl ⟨by rfl, by intro wx hx; go_simp⟩) (by assumption) ?_
        try simp only [List.getElem_toArray, List.getElem_cons_succ, List.getElem_cons_zero, Act.put, List.setIfInBounds_toArray, List.set_cons_zero, List.set_cons_succ]
        refine wpAnyH_done (by kernel_rfl) ?_ _
        clear hSx hHeld0 hS5 hS6
        go_wp2_with fail
        go_roundw
        case rel => exact ⟨q + 1, f, by omega, by omega, by go_num, rfl, by omega, hid (by rw [← hf2.out, hfe.out]), hyz⟩
        case measure => simp [intOf]; omega
    · have hqe : q = P.length := by omega
      subst hqe
      go_wp2_with fail
      go_ret
      exact ⟨by rw [← hf.out]; rfl, Ext.trans e1 hy⟩
end Go.Proofs.YtmgcfnciejfpbaaGreat
