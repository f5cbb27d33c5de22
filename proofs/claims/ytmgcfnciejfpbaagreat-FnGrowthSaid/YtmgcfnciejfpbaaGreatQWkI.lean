/- Whether a list is a work list, and the next one: program and reference. -/
import Derived.Test.YtmgcfnciejfpbaaGreatQWsv
import Derived.Test.YtmgcfnciejfpbaaGreatQNxtS
import Derived.Test.YtmgcfnciejfpbaaGreatQWkw
namespace Go.Proofs.YtmgcfnciejfpbaaGreat
open Go.RowKit

def iwB (M : List (List Int)) (k : Int) (ws : List Int) : Bool := askB M k && workB M (confs M.length k.toNat 0) ws
theorem grt_below {xs : List Int} (h : ∀ x ∈ xs, 0 ≤ x) : belowB 100000 xs = decide (¬ 99999 < grtL xs) := by
  have h1 := grtL_below h
  cases hb : belowB 100000 xs with
  | true => rw [hb] at h1; simp at h1; simpa using h1
  | false => rw [hb] at h1; simp at h1; simpa using h1
set_option maxHeartbeats 1600000 in
set_option maxRecDepth 100000 in
theorem implIsWork_any {v vw : Value} {M : List (List Int)} {ws : List Int} {k : Int} {w0 w : World} [Ext w0 w] (hm : IsMet w0 v M) (hw : IsInts w0 vw ws) :
    Calls Tryz.prog 12 #[v, .int .i64 k, vw] w fun e w' => e = .returned (.tuple #[.bool (iwB M k ws), .bool (askB M k)]) ∧ Ext w w' := by
  have hm' := hm
  obtain ⟨v1, rfl, hR⟩ := hm
  obtain ⟨a1, c1, rfl, l1⟩ := hR.form
  have hw' := hw
  obtain ⟨dw, mw, rfl, lw⟩ := hw.form
  have x0 : (w.alloc (.cells #[.slice a1 M.length c1] 26)).cell? ⟨w.heap.size, 0, none⟩ = some (.slice a1 M.length c1) := by go_simp
  cases hq : askB M k with
  | false =>
    have hr := hid (show iwB M k ws = false by rw [iwB, hq]; rfl)
    replace hq := hid hq
    go_enter Tryz.func12, Tryz.ntmps12
    go_wp2_with fail
    with_reducible refine (isKs_any (w0 := w0) hm').mono ?_
    rw [hq.out]
    rintro e w1 ⟨rfl, e1⟩
    go_wp2_with fail
    go_ret2
    exact ⟨ret_tuple2 (by rw [hr.out]; rfl) rfl, Ext.trans inferInstance e1⟩
  | true =>
    obtain ⟨hM, hk1, hk3⟩ := askB_iff.1 hq
    obtain ⟨kn, rfl⟩ := Int.eq_ofNat_of_zero_le (show 0 ≤ k by omega)
    have hr := hid (show iwB M kn ws = workB M (confs M.length kn 0) ws by rw [iwB, hq, Int.toNat_natCast]; rfl)
    have hMl := met_len hM
    have hkn : kn ≤ 3 := by omega
    have hk1n : 1 ≤ kn := by omega
    have h216 := confs_216 hMl.2 hkn
    have hmv := hid (confs_mv (dst_of_met hM) hkn)
    have hM' := hid hM
    clear hM
    replace hq := hid hq
    go_enter Tryz.func12, Tryz.ntmps12
    go_wp2_with fail
    with_reducible refine (isKs_any (w0 := w0) hm').mono ?_
    rw [hq.out]
    rintro e w1 ⟨rfl, e1⟩
    have x1 := e1.cell x0
    have e1w : Ext w w1 := Ext.trans inferInstance e1
    have e01 : Ext w0 w1 := Ext.trans ‹Ext w0 w› e1w
    clear x0
    go_wp2_with fail
    with_reducible refine (worksOf_any (w0 := w0) hm' hM'.out hk1n hkn).mono ?_
    rintro e w2 ⟨u, rfl, hW, e2⟩
    have e02 : Ext w0 w2 := Ext.trans e01 e2
    go_wp2_with fail
    with_reducible refine (isWork_any (w0 := w2) (w := w2) hW (hw'.ext (e := e02)) (by omega) hmv.out).mono ?_
    rintro e w3 ⟨rfl, e3⟩
    go_wp2_with fail
    go_ret2
    exact ⟨ret_tuple2 (by rw [hr.out]; rfl) rfl, Ext.trans e1w (Ext.trans e2 e3)⟩
set_option maxHeartbeats 1600000 in
set_option maxRecDepth 100000 in
theorem specIsWork_any {v vw : Value} {M : List (List Int)} {ws : List Int} {k : Int} {w0 w : World} [Ext w0 w] (hm : IsMet w0 v M) (hw : IsInts w0 vw ws) :
    Calls Tryz.prog 13 #[v, .int .i64 k, vw] w fun e w' => e = .returned (.tuple #[.bool (iwB M k ws), .bool (askB M k)]) ∧ Ext w w' := by
  have hm' := hm
  obtain ⟨v1, rfl, hR⟩ := hm
  obtain ⟨a1, c1, rfl, l1⟩ := hR.form
  have hw' := hw
  obtain ⟨dw, mw, rfl, lw⟩ := hw.form
  have x0 : (w.alloc (.cells #[.slice a1 M.length c1] 26)).cell? ⟨w.heap.size, 0, none⟩ = some (.slice a1 M.length c1) := by go_simp
  cases hq : askB M k with
  | false =>
    have hr := hid (show iwB M k ws = false by rw [iwB, hq]; rfl)
    replace hq := hid hq
    go_enter Tryz.func13, Tryz.ntmps13
    go_wp2_with fail
    with_reducible refine (l7Asked_any (w0 := w0) hm').mono ?_
    rw [hq.out]
    rintro e w1 ⟨rfl, e1⟩
    go_wp2_with fail
    go_ret2
    exact ⟨ret_tuple2 (by rw [hr.out]; rfl) rfl, Ext.trans inferInstance e1⟩
  | true =>
    obtain ⟨hM, hk1, hk3⟩ := askB_iff.1 hq
    obtain ⟨kn, rfl⟩ := Int.eq_ofNat_of_zero_le (show 0 ≤ k by omega)
    have hr := hid (show iwB M kn ws = workB M (confs M.length kn 0) ws by rw [iwB, hq, Int.toNat_natCast]; rfl)
    have hMl := met_len hM
    have hkn : kn ≤ 3 := by omega
    have hk1n : 1 ≤ kn := by omega
    have h216 := confs_216 hMl.2 hkn
    have hPm := hid (confs_pm (n := M.length) (k := kn))
    have hM' := hid hM
    clear hM
    replace hq := hid hq
    go_enter Tryz.func13, Tryz.ntmps13
    go_wp2_with fail
    with_reducible refine (l7Asked_any (w0 := w0) hm').mono ?_
    rw [hq.out]
    rintro e w1 ⟨rfl, e1⟩
    have x1 := e1.cell x0
    have e1w : Ext w w1 := Ext.trans inferInstance e1
    have e01 : Ext w0 w1 := Ext.trans ‹Ext w0 w› e1w
    clear x0 e1
    go_upto_region 3 with fail
    generalize w.heap.size = bx at *
    have hSx := hid (show ∀ u, Ext w1 u → u.cell? ⟨bx, 0, none⟩ = some (.slice a1 M.length c1) ∧ True from fun u e => ⟨e.cell x1, trivial⟩)
    clear x1
    refine region_held_from (w0 := w1) (S := fun u => u.cell? ⟨bx, 0, none⟩ = some (.slice a1 M.length c1) ∧ True) (by kernel_rfl) hSx.out (fun wd ed hHeld0 => ?_)
    have e0d : Ext w0 wd := Ext.trans e01 ed
    refine wpAnyH_take (i := 0) (v := .agg #[.slice a1 M.length c1]) rfl (by kernel_rfl) (by kernel_rfl) (by kernel_rfl) (fun _ _ _ h => h) (Or.inl ⟨by rfl, by intro wx hx; obtain ⟨_, _⟩ := hx; go_simp⟩) (by assumption) ?_
    try simp only [List.getElem_toArray, List.getElem_cons_zero, Act.put, List.setIfInBounds_toArray, List.set_cons_zero, List.set_cons_succ]
    refine wpAnyH_take (i := 1) (v := .pointer (some ⟨bx, 0, none⟩)) rfl (by kernel_rfl) (by kernel_rfl) (by kernel_rfl) (fun _ _ _ h => h) (Or.inl ⟨by rfl, by intro wx hx; go_simp⟩) (by assumption) ?_
    try simp only [List.getElem_toArray, List.getElem_cons_succ, List.getElem_cons_zero, Act.put, List.setIfInBounds_toArray, List.set_cons_zero, List.set_cons_succ]
    refine wpAnyH_take (i := 2) (v := .slice a1 M.length c1) rfl (by kernel_rfl) (by kernel_rfl) (by kernel_rfl) (fun _ _ _ h => h) (Or.inl ⟨by rfl, by intro wx hx; obtain ⟨_, _⟩ := hx; go_simp⟩) (by assumption) ?_
    try simp only [List.getElem_toArray, List.getElem_cons_succ, List.getElem_cons_zero, Act.put, List.setIfInBounds_toArray, List.set_cons_zero, List.set_cons_succ]
    refine wpAnyH_take (i := 3) (v := .int .i64 M.length) rfl (by kernel_rfl) (by kernel_rfl) (by kernel_rfl) (fun _ _ _ h => h) (Or.inl ⟨by rfl, by intro wx hx; go_simp⟩) (by assumption) ?_
    try simp only [List.getElem_toArray, List.getElem_cons_succ, List.getElem_cons_zero, Act.put, List.setIfInBounds_toArray, List.set_cons_zero, List.set_cons_succ]
    refine wpAnyH_take (i := 4) (v := .int .i64 kn) rfl (by kernel_rfl) (by kernel_rfl) (by kernel_rfl) (fun _ _ _ h => h) (Or.inl ⟨by rfl, by intro wx hx; go_simp⟩) (by assumption) ?_
    try simp only [List.getElem_toArray, List.getElem_cons_succ, List.getElem_cons_zero, Act.put, List.setIfInBounds_toArray, List.set_cons_zero, List.set_cons_succ]
    refine wpAnyH_take (i := 6) (v := .slice dw ws.length mw) rfl (by kernel_rfl) (by kernel_rfl) (by kernel_rfl) (fun _ _ _ h => h) (Or.inl ⟨by rfl, by intro wx hx; go_simp⟩) (by assumption) ?_
    try simp only [List.getElem_toArray, List.getElem_cons_succ, List.getElem_cons_zero, Act.put, List.setIfInBounds_toArray, List.set_cons_zero, List.set_cons_succ]
    refine wpAnyH_ready (rs := [5]) (by kernel_rfl) (by simp) ?_
    refine AllReadyH.cons rfl (fun K hK => ?_) AllReadyH.nil
    go_simp
    go_at_call 66
    with_reducible refine (l6Configs_any (n := M.length) (k := kn) hMl.2 hkn _).mono ?_
    rintro e w3 ⟨vP, rfl, hP, e3⟩
    have hP' := hP
    obtain ⟨aP, cP, rfl, lP⟩ := hP.form
    have hS3 := hSx.out w3 (Ext.trans ed e3)
    have e03 : Ext w0 w3 := Ext.trans e0d e3
    have hw3 := hw'.ext (e := e03)
    have hm3 := hm'.ext (e := e03)
    clear hP
    go_wp2_with fail
    refine hK.out _ _ hS3 (fun _ => ?_)
    clear hK K
    try simp only [List.getElem_toArray, List.getElem_cons_succ, List.getElem_cons_zero, Act.put, List.setIfInBounds_toArray, List.set_cons_zero, List.set_cons_succ]
    refine wpAnyH_ready (rs := [7]) (by kernel_rfl) (by simp) ?_
    refine AllReadyH.cons rfl (fun K hK => ?_) AllReadyH.nil
    go_simp
    go_at_call 65
    with_reducible refine (l7Work_any (w0 := w3) (w := w3) (k := kn) hm3 hM'.out hP' hw3 (by omega) hkn hPm.out).mono ?_
    rw [← hr.out]
    rintro e w4 ⟨rfl, e4⟩
    have hS4 := hSx.out w4 (Ext.trans ed (Ext.trans e3 e4))
    go_wp2_with fail
    refine hK.out _ _ hS4 (fun _ => ?_)
    clear hK K
    try simp only [List.getElem_toArray, List.getElem_cons_succ, List.getElem_cons_zero, Act.put, List.setIfInBounds_toArray, List.set_cons_zero, List.set_cons_succ]
    refine wpAnyH_take (i := 8) (v := .bool (iwB M kn ws)) rfl (by kernel_rfl) (by kernel_rfl) (by kernel_rfl) (fun _ _ _ h => h) (Or.inl ⟨by rfl, by intro wx hx; go_simp⟩) (by assumption) ?_
    try simp only [List.getElem_toArray, List.getElem_cons_succ, List.getElem_cons_zero, Act.put, List.setIfInBounds_toArray, List.set_cons_zero, List.set_cons_succ]
    refine wpAnyH_take (i := 9) (v := .bool true) rfl (by kernel_rfl) (by kernel_rfl) (by kernel_rfl) (fun _ _ _ h => h) (Or.inl ⟨by rfl, by intro wx hx; go_simp⟩) (by assumption) ?_
    try simp only [List.getElem_toArray, List.getElem_cons_succ, List.getElem_cons_zero, Act.put, List.setIfInBounds_toArray, List.set_cons_zero, List.set_cons_succ]
    refine wpAnyH_done (by kernel_rfl) ?_ _
    go_wp2_with fail
    go_ret2
    exact ⟨rfl, Ext.trans e1w (Ext.trans ed (Ext.trans e3 e4))⟩
set_option maxHeartbeats 1600000 in
set_option maxRecDepth 100000 in
theorem specStep_any {v vw : Value} {M : List (List Int)} {ws : List Int} {k r : Int} {w0 w : World} [Ext w0 w] (hm : IsMet w0 v M) (hw : IsInts w0 vw ws) :
    Calls Tryz.prog 17 #[v, .int .i64 k, vw, .int .i64 r] w fun e w' => ∃ u, e = .returned (.tuple #[u, .bool (stB M k ws r)]) ∧ IsInts w' u (stL M k ws r) ∧ Ext w w' := by
  have hm' := hm
  obtain ⟨v1, rfl, hR⟩ := hm
  obtain ⟨a1, c1, rfl, l1⟩ := hR.form
  have hw' := hw
  obtain ⟨dw, mw, rfl, lw⟩ := hw.form
  have x0 : (w.alloc (.cells #[.slice a1 M.length c1] 26)).cell? ⟨w.heap.size, 0, none⟩ = some (.slice a1 M.length c1) := by go_simp
  cases hq : givB M k ws r with
  | false =>
    have hr := hid (show stB M k ws r = false ∧ stL M k ws r = [] by
      have h2 : stB M k ws r = false := by rw [stB, hq]; rfl
      exact ⟨h2, by rw [stL, h2]; rfl⟩)
    replace hq := hid hq
    go_enter Tryz.func17, Tryz.ntmps17
    go_wp2_with fail
    with_reducible refine (l7Given_any (w0 := w0) hm' hw').mono ?_
    rw [hq.out]
    rintro e w1 ⟨rfl, e1⟩
    go_wp2_with fail
    go_ret2
    exact ⟨_, ret_tuple2 rfl (by rw [hr.out.1]; rfl), by rw [hr.out.2]; exact ints_none _ _ _, Ext.trans inferInstance (Ext.trans e1 inferInstance)⟩
  | true =>
    obtain ⟨hM, ⟨hk1, hk3⟩, hrr, hwb⟩ := giv_parts hq
    obtain ⟨kn, rfl⟩ := Int.eq_ofNat_of_zero_le (show 0 ≤ k by omega)
    rw [Int.toNat_natCast] at hwb
    have hMl := met_len hM
    have hkn : kn ≤ 3 := by omega
    have hk1n : 1 ≤ kn := by omega
    have h216 := confs_216 hMl.2 hkn
    have hg := work_good (M := M) (P := confs M.length kn 0) (ws := ws) hwb
    have hgn := (wnx_good (r := r) (dst_of_met hM) hk1n hkn hg (by omega) hrr).1
    have hnl : (wnxL M (confs M.length kn 0) ws r).length = (confs M.length kn 0).length := by rw [wnxL_len]; exact hg.1.1
    have hst : stB M kn ws r = decide (¬ 99999 < grtL (wnxL M (confs M.length kn 0) ws r)) := by
      rw [stB, hq, Bool.true_and, Int.toNat_natCast]
      exact grt_below fun x hx => by
        obtain ⟨j, hj, rfl⟩ := mem_iff_nth.1 hx
        exact (hgn.2 j (by omega)).1
    have hsl : stL M kn ws r = if stB M kn ws r then wnxL M (confs M.length kn 0) ws r else [] := by rw [stL, Int.toNat_natCast]
    have hin := hid (good_i64 hgn (by omega))
    have hM' := hid hM
    have hg' := hid hg
    clear hM hg hgn hwb
    replace hq := hid hq
    replace hst := hid hst
    replace hsl := hid hsl
    replace hrr := hid hrr
    replace hnl := hid hnl
    go_enter Tryz.func17, Tryz.ntmps17
    go_wp2_with fail
    with_reducible refine (l7Given_any (w0 := w0) hm' hw').mono ?_
    rw [hq.out]
    rintro e w1 ⟨rfl, e1⟩
    have x1 := e1.cell x0
    have e1w : Ext w w1 := Ext.trans inferInstance e1
    have e01 : Ext w0 w1 := Ext.trans ‹Ext w0 w› e1w
    clear x0
    go_wp2_with fail
    with_reducible refine (l7NextO_any (L := 99999) (w0 := w0) hm' hM'.out hw' hk1n hkn hg'.out (by omega) hrr.out).mono ?_
    rintro e w2 ⟨u, rfl, own, e2⟩
    have hX : IsInts w2 u _ := own.reads (by unfold Short; rw [hnl.out]; omega) hin.out
    clear hnl hin
    generalize wnxL M (confs M.length kn 0) ws r = X at *
    obtain ⟨du, mu, hu, lu⟩ := hX.form
    subst hu
    clear own
    go_wp2_with fail
    with_reducible refine (l7Greatest_any (w0 := w2) (w := w2) hX).mono ?_
    rintro e w3 ⟨rfl, rfl⟩
    by_cases hb : 99999 < grtL X
    · have h2 : stB M kn ws r = false := by rw [hst.out]; exact decide_eq_false (by omega)
      have h3 : stL M kn ws r = [] := by rw [hsl.out, h2]; rfl
      replace h2 := hid h2
      replace h3 := hid h3
      go_wp2_with fail
      go_ret2
      exact ⟨_, ret_tuple2 rfl (by rw [h2.out]; rfl), by rw [h3.out]; exact ints_none _ _ _, Ext.trans e1w (Ext.trans e2 inferInstance)⟩
    · have h2 : stB M kn ws r = true := by rw [hst.out]; exact decide_eq_true (by omega)
      have h3 : stL M kn ws r = X := by rw [hsl.out, h2]; rfl
      replace h2 := hid h2
      replace h3 := hid h3
      go_wp2_with fail
      go_ret2
      exact ⟨_, ret_tuple2 rfl (by rw [h2.out]; rfl), by rw [h3.out]; exact hX, Ext.trans e1w e2⟩
end Go.Proofs.YtmgcfnciejfpbaaGreat
