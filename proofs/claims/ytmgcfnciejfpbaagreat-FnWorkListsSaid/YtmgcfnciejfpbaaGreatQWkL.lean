/- The first work list: program and reference. -/
import Derived.Test.YtmgcfnciejfpbaaGreatQWkJ
namespace Go.Proofs.YtmgcfnciejfpbaaGreat
open Go.RowKit

theorem wst_i64 {M : List (List Int)} {k : Nat} {a : List Int} (hd : Dst M M.length) (hk : k ≤ 3) (ha : a ∈ confs M.length k 0) : ∀ x ∈ wst M (confs M.length k 0) a, I64 x := good_i64 (start_good hd hk ha) (by omega)
set_option maxHeartbeats 1600000 in
set_option maxRecDepth 100000 in
theorem implStart_any {v va : Value} {M : List (List Int)} {a : List Int} {w0 w : World} [Ext w0 w] (hm : IsMet w0 v M) (ha : IsInts w0 va a) :
    Calls Tryz.prog 23 #[v, va] w fun e w' => ∃ u, e = .returned (.tuple #[u, .bool (srvB M a [])]) ∧ IsInts w' u (swR M a) ∧ Ext w w' := by
  have hm' := hm
  obtain ⟨v1, rfl, hR⟩ := hm
  obtain ⟨a1, c1, rfl, l1⟩ := hR.form
  have ha' := ha
  obtain ⟨da, ma, rfl, la⟩ := ha.form
  have x0 : (w.alloc (.cells #[.slice a1 M.length c1] 26)).cell? ⟨w.heap.size, 0, none⟩ = some (.slice a1 M.length c1) := by go_simp
  cases hq : srvB M a [] with
  | false =>
    have hr := hid (show swR M a = [] by rw [swR, hq]; rfl)
    replace hq := hid hq
    go_enter Tryz.func23, Tryz.ntmps23
    go_wp2_with fail
    with_reducible refine (isServed_any (w0 := w0) hm' ha' (IsInts.nil w0)).mono ?_
    rw [hq.out]
    rintro e w1 ⟨rfl, e1⟩
    go_wp2_with fail
    go_ret2
    exact ⟨_, ret_tuple2 rfl rfl, by rw [hr.out]; exact IsInts.nil _, Ext.trans inferInstance e1⟩
  | true =>
    obtain ⟨hdst, hk, hac, _, _⟩ := srv_all hq
    have hM : metB M = true := by rw [srv_nil] at hq; simp only [Bool.and_eq_true] at hq; exact hq.1
    have hr := hid (show swR M a = wst M (confs M.length a.length 0) a by rw [swR, hq]; rfl)
    have hMl := met_len hM
    have h216 := confs_216 hMl.2 hk.2
    have hasc := hid (confs_asc M.length a.length 0)
    have hi64 := hid (wst_i64 hdst hk.2 hac)
    have hsh := hid (show (swR M a).length ≤ 216 by rw [hr.out, wst, List.length_map]; exact h216)
    obtain ⟨htl, htr⟩ := atR_lt hac
    have hac' := hid hac
    have hM' := hid hM
    have hk1 := hk.1
    have hk3 := hk.2
    clear hac hM hdst hk
    replace hq := hid hq
    go_enter Tryz.func23, Tryz.ntmps23
    go_wp2_with fail
    with_reducible refine (isServed_any (w0 := w0) hm' ha' (IsInts.nil w0)).mono ?_
    rw [hq.out]
    rintro e w1 ⟨rfl, e1⟩
    have x1 := e1.cell x0
    have e1w : Ext w w1 := Ext.trans inferInstance e1
    have e01 : Ext w0 w1 := Ext.trans ‹Ext w0 w› e1w
    clear x0 e1
    go_wp2_with fail
    with_reducible refine (worksOf_any (w0 := w0) hm' hM'.out hk1 hk3).mono ?_
    rintro e w2 ⟨u, rfl, hW, e2⟩
    have e02 : Ext w0 w2 := Ext.trans e01 e2
    have hW' := hW
    obtain ⟨bx, mv, pv, cv, rfl, h0, h1, h2, hR2, hP, hCs⟩ := hW
    clear h0 h1 hR2 hP x1
    obtain ⟨P, hPd⟩ : ∃ p, p = confs M.length a.length 0 := ⟨_, rfl⟩
    rw [← hPd] at htl htr hac' hasc h216 hW' hCs hi64 hr
    replace hPd := hid hPd
    obtain ⟨t, ht⟩ : ∃ t, t = atR P a := ⟨_, rfl⟩
    rw [← ht] at htl htr
    have hat := hid ht.symm
    replace ht := hid ht
    have hcl : (cosL M P).length = P.length := by simp [cosL]
    have hrow := hid (show row (cosL M P) t = wst M P a by
      rw [wst, ← htr]
      simp [row, cosL, htl])
    obtain ⟨aC, mC, rfl, lC⟩ := hCs.form
    obtain ⟨bC, oC, dr, mr, hdC, hcr, hrI, _⟩ := hCs.at (w' := w2) (k := t) (by rw [hcl]; exact htl)
    cases hdC
    rw [hcl] at h2
    clear hCs hcl lC htr
    rw [hrow.out] at hcr hrI
    clear hrow
    rw [← hr.out] at hcr hrI hi64
    obtain ⟨S0, hS0⟩ : ∃ x, x = swR M a := ⟨_, rfl⟩
    rw [← hS0] at hcr hrI hi64 hsh
    replace hS0 := hid hS0
    clear hr
    have ha2 := ha'.ext (e := e02)
    go_upto_region 4 with fail
    have hSx := hid (show ∀ u, Ext w2 u → u.cell? ⟨bx, 2, none⟩ = some (.slice (some ⟨bC, oC, none⟩) P.length mC) ∧ u.cell? ⟨bC, oC + t, none⟩ = some (.slice dr S0.length mr) from fun u e => ⟨e.cell h2, e.cell hcr⟩)
    clear h2 hcr
    refine region_held_from (w0 := w2) (S := fun u => u.cell? ⟨bx, 2, none⟩ = some (.slice (some ⟨bC, oC, none⟩) P.length mC) ∧ u.cell? ⟨bC, oC + t, none⟩ = some (.slice dr S0.length mr)) (by kernel_rfl) hSx.out (fun wd ed hHeld0 => ?_)
    refine wpAnyH_take (i := 0) (v := .pointer (some ⟨bx, 0, none⟩)) rfl (by kernel_rfl) (by kernel_rfl) (by kernel_rfl) (fun _ _ _ h => h) (Or.inl ⟨by rfl, by intro wx hx; go_simp⟩) (by assumption) ?_
    try simp only [List.getElem_toArray, List.getElem_cons_zero, Act.put, List.setIfInBounds_toArray, List.set_cons_zero, List.set_cons_succ]
    refine wpAnyH_take (i := 1) (v := .pointer (some ⟨bx, 0, none⟩)) rfl (by kernel_rfl) (by kernel_rfl) (by kernel_rfl) (fun _ _ _ h => h) (Or.inl ⟨by rfl, by intro wx hx; go_simp⟩) (by assumption) ?_
    try simp only [List.getElem_toArray, List.getElem_cons_succ, List.getElem_cons_zero, Act.put, List.setIfInBounds_toArray, List.set_cons_zero, List.set_cons_succ]
    refine wpAnyH_take (i := 2) (v := .pointer (some ⟨bx, 2, none⟩)) rfl (by kernel_rfl) (by kernel_rfl) (by kernel_rfl) (fun _ _ _ h => h) (Or.inl ⟨by rfl, by intro wx hx; go_simp⟩) (by assumption) ?_
    try simp only [List.getElem_toArray, List.getElem_cons_succ, List.getElem_cons_zero, Act.put, List.setIfInBounds_toArray, List.set_cons_zero, List.set_cons_succ]
    refine wpAnyH_take (i := 3) (v := .slice (some ⟨bC, oC, none⟩) P.length mC) rfl (by kernel_rfl) (by kernel_rfl) (by kernel_rfl) (fun _ _ _ h => h) (Or.inl ⟨by rfl, by intro wx hx; obtain ⟨_, _⟩ := hx; go_simp⟩) (by assumption) ?_
    try simp only [List.getElem_toArray, List.getElem_cons_succ, List.getElem_cons_zero, Act.put, List.setIfInBounds_toArray, List.set_cons_zero, List.set_cons_succ]
    refine wpAnyH_take (i := 4) (v := .pointer (some ⟨bx, 0, none⟩)) rfl (by kernel_rfl) (by kernel_rfl) (by kernel_rfl) (fun _ _ _ h => h) (Or.inl ⟨by rfl, by intro wx hx; go_simp⟩) (by assumption) ?_
    try simp only [List.getElem_toArray, List.getElem_cons_succ, List.getElem_cons_zero, Act.put, List.setIfInBounds_toArray, List.set_cons_zero, List.set_cons_succ]
    refine wpAnyH_take (i := 5) (v := .slice da a.length ma) rfl (by kernel_rfl) (by kernel_rfl) (by kernel_rfl) (fun _ _ _ h => h) (Or.inl ⟨by rfl, by intro wx hx; go_simp⟩) (by assumption) ?_
    try simp only [List.getElem_toArray, List.getElem_cons_succ, List.getElem_cons_zero, Act.put, List.setIfInBounds_toArray, List.set_cons_zero, List.set_cons_succ]
    refine wpAnyH_ready (rs := [6]) (by kernel_rfl) (by simp) ?_
    refine AllReadyH.cons rfl (fun K hK => ?_) AllReadyH.nil
    go_simp
    go_at_call 79
    refine (index_any (w0 := w2) (w := wd) hW' ha2 hasc.out hac'.out (by omega)).mono ?_
    rw [hat.out]
    rintro e w5 ⟨rfl, rfl⟩
    go_wp2_with fail
    refine hK.out _ _ hHeld0 (fun _ => ?_)
    clear hK K
    try simp only [List.getElem_toArray, List.getElem_cons_succ, List.getElem_cons_zero, Act.put, List.setIfInBounds_toArray, List.set_cons_zero, List.set_cons_succ]
    refine wpAnyH_take (i := 7) (v := .pointer (some ⟨bC, oC + t, none⟩)) rfl (by kernel_rfl) (by kernel_rfl) (by kernel_rfl) (fun _ _ _ h => h) (Or.inl ⟨by rfl, by intro wx hx; go_simp⟩) (by assumption) ?_
    try simp only [List.getElem_toArray, List.getElem_cons_succ, List.getElem_cons_zero, Act.put, List.setIfInBounds_toArray, List.set_cons_zero, List.set_cons_succ]
    refine wpAnyH_take (i := 8) (v := .slice dr S0.length mr) rfl (by kernel_rfl) (by kernel_rfl) (by kernel_rfl) (fun _ _ _ h => h) (Or.inl ⟨by rfl, by intro wx hx; obtain ⟨_, _⟩ := hx; go_simp⟩) (by assumption) ?_
    try simp only [List.getElem_toArray, List.getElem_cons_succ, List.getElem_cons_zero, Act.put, List.setIfInBounds_toArray, List.set_cons_zero, List.set_cons_succ]
    refine wpAnyH_ready (rs := [9]) (by kernel_rfl) (by simp) ?_
    refine AllReadyH.cons rfl (fun K hK => ?_) AllReadyH.nil
    go_simp
    go_at_call 84
    refine (cloneInts_any (w0 := w2) (w := wd) hrI).mono ?_
    rintro e w6 ⟨d6, m6, rfl, own6, e6⟩
    have hS6 := hSx.out w6 (Ext.trans ed e6)
    have hI6 : IsInts w6 (.slice d6 S0.length m6) S0 := own6.reads (by have := hsh.out; unfold Short; omega) hi64.out
    go_wp2_with fail
    refine hK.out _ _ hS6 (fun _ => ?_)
    clear hK K
    try simp only [List.getElem_toArray, List.getElem_cons_succ, List.getElem_cons_zero, Act.put, List.setIfInBounds_toArray, List.set_cons_zero, List.set_cons_succ]
    refine wpAnyH_take (i := 10) (v := .slice d6 S0.length m6) rfl (by kernel_rfl) (by kernel_rfl) (by kernel_rfl) (fun _ _ _ h => h) (Or.inl ⟨by rfl, by intro wx hx; go_simp⟩) (by assumption) ?_
    try simp only [List.getElem_toArray, List.getElem_cons_succ, List.getElem_cons_zero, Act.put, List.setIfInBounds_toArray, List.set_cons_zero, List.set_cons_succ]
    refine wpAnyH_take (i := 11) (v := .bool true) rfl (by kernel_rfl) (by kernel_rfl) (by kernel_rfl) (fun _ _ _ h => h) (Or.inl ⟨by rfl, by intro wx hx; go_simp⟩) (by assumption) ?_
    try simp only [List.getElem_toArray, List.getElem_cons_succ, List.getElem_cons_zero, Act.put, List.setIfInBounds_toArray, List.set_cons_zero, List.set_cons_succ]
    refine wpAnyH_done (by kernel_rfl) ?_ _
    go_wp2_with fail
    go_ret2
    exact ⟨_, ret_tuple2 rfl rfl, by rw [← hS0.out]; exact hI6, Ext.trans e1w (Ext.trans e2 (Ext.trans ed e6))⟩
set_option maxHeartbeats 1600000 in
set_option maxRecDepth 100000 in
theorem specStart_any {v va : Value} {M : List (List Int)} {a : List Int} {w0 w : World} [Ext w0 w] (hm : IsMet w0 v M) (ha : IsInts w0 va a) :
    Calls Tryz.prog 24 #[v, va] w fun e w' => ∃ u, e = .returned (.tuple #[u, .bool (srvB M a [])]) ∧ IsInts w' u (swR M a) ∧ Ext w w' := by
  have hm' := hm
  obtain ⟨v1, rfl, hR⟩ := hm
  obtain ⟨a1, c1, rfl, l1⟩ := hR.form
  have ha' := ha
  obtain ⟨da, ma, rfl, la⟩ := ha.form
  have x0 : (w.alloc (.cells #[.slice a1 M.length c1] 26)).cell? ⟨w.heap.size, 0, none⟩ = some (.slice a1 M.length c1) := by go_simp
  cases hM : metB M with
  | false =>
    have hq : srvB M a [] = false := by rw [srv_nil, hM]; rfl
    have hr := hid (show swR M a = [] by rw [swR, hq]; rfl)
    replace hq := hid hq
    replace hM := hid hM
    go_enter Tryz.func24, Tryz.ntmps24
    go_wp2_with fail
    with_reducible refine (l6Good_any (w0 := w0) hm').mono ?_
    rw [hM.out]
    rintro e w1 ⟨rfl, e1⟩
    go_wp2_with fail
    go_ret2
    exact ⟨_, ret_tuple2 rfl (by rw [hq.out]; rfl), by rw [hr.out]; exact ints_none _ _ _, Ext.trans inferInstance (Ext.trans e1 inferInstance)⟩
  | true =>
    have hMl := met_len hM
    cases hc : cfgB M.length a with
    | false =>
      have hq : srvB M a [] = false := by rw [srv_nil, hM, hc]; rfl
      have hr := hid (show swR M a = [] by rw [swR, hq]; rfl)
      replace hq := hid hq
      replace hM := hid hM
      replace hc := hid hc
      go_enter Tryz.func24, Tryz.ntmps24
      go_wp2_with fail
      with_reducible refine (l6Good_any (w0 := w0) hm').mono ?_
      rw [hM.out]
      rintro e w1 ⟨rfl, e1⟩
      have x1 := e1.cell x0
      have e1w : Ext w w1 := Ext.trans inferInstance e1
      have e01 : Ext w0 w1 := Ext.trans ‹Ext w0 w› e1w
      clear x0
      go_wp2_with fail
      with_reducible refine (l6Config_any (w0 := w0) (n := (M.length : Int)) ha' (by omega)).mono ?_
      rw [hc.out]
      rintro e w2 ⟨rfl, e2⟩
      go_wp2_with fail
      go_ret2
      exact ⟨_, ret_tuple2 rfl (by rw [hq.out]; rfl), by rw [hr.out]; exact ints_none _ _ _, Ext.trans e1w (Ext.trans e2 inferInstance)⟩
    | true =>
      have hq : srvB M a [] = true := by rw [srv_nil, hM, hc]; rfl
      obtain ⟨hdst, hk, hac, _, _⟩ := srv_all hq
      have hr := hid (show swR M a = wst M (confs M.length a.length 0) a by rw [swR, hq]; rfl)
      have h216 := confs_216 hMl.2 hk.2
      have hi64 := hid (wst_i64 hdst hk.2 hac)
      have hlen : (wst M (confs M.length a.length 0) a).length ≤ 216 := by simp [wst]; omega
      have hac' := hid hac
      have hk1 := hk.1
      have hk3 := hk.2
      clear hac hdst hk
      replace hq := hid hq
      replace hM := hid hM
      replace hc := hid hc
      replace hlen := hid hlen
      go_enter Tryz.func24, Tryz.ntmps24
      go_wp2_with fail
      with_reducible refine (l6Good_any (w0 := w0) hm').mono ?_
      rw [hM.out]
      rintro e w1 ⟨rfl, e1⟩
      have x1 := e1.cell x0
      have e1w : Ext w w1 := Ext.trans inferInstance e1
      have e01 : Ext w0 w1 := Ext.trans ‹Ext w0 w› e1w
      clear x0
      go_wp2_with fail
      with_reducible refine (l6Config_any (w0 := w0) (n := (M.length : Int)) ha' (by omega)).mono ?_
      rw [hc.out]
      rintro e w2 ⟨rfl, e2⟩
      have x2 := e2.cell x1
      have e02 : Ext w0 w2 := Ext.trans e01 e2
      clear x1
      go_wp2_with fail
      with_reducible refine (l7Start_any (w0 := w0) (w := w2) hm' hM.out ha' hk3 hac'.out).mono ?_
      rintro e w3 ⟨u, rfl, own, e3⟩
      have hX : IsInts w3 u _ := own.reads (by unfold Short; have := hlen.out; omega) hi64.out
      rw [← hr.out] at hX
      clear own
      go_wp2_with fail
      go_ret2
      exact ⟨_, ret_tuple2 rfl (by rw [hq.out]; rfl), hX, Ext.trans e1w (Ext.trans e2 e3)⟩
end Go.Proofs.YtmgcfnciejfpbaaGreat
