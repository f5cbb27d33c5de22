/- The work list below values of configurations, the reference's. -/
import Derived.Test.YtkibmjenjgijmaaFsL
import Derived.Test.YtkibmjenjgijmaaCfgO
namespace Go.Proofs.Ytkibmjenjgijmaa
open Go.RowKit

/-- the least of the first j sums -/
def fsAt (M C : List (List Int)) (V x : List Int) : Nat → Int
  | 0 => -1
  | j + 1 => if fsAt M C V x j < 0 ∨ nth V j + mvC M (row C j) x < fsAt M C V x j then nth V j + mvC M (row C j) x else fsAt M C V x j
def fsV (M C : List (List Int)) (V : List Int) : List Int := (confs M.length (row C 0).length 0).map fun x => fsAt M C V x C.length
def fsB (M C : List (List Int)) (V : List Int) : Bool := fsOk M C V && (fsV M C V).all fun y => decide (y ≤ 99999)
def fsR (M C : List (List Int)) (V : List Int) : List Int := if fsB M C V then fsV M C V else []
theorem fsV_len {M C : List (List Int)} {V : List Int} : (fsV M C V).length = (confs M.length (row C 0).length 0).length := by simp [fsV]
theorem map_nth {f : List Int → Int} {L : List (List Int)} {i : Nat} (h : i < L.length) : nth (L.map f) i = f (row L i) := by simp [nth, row, h]
theorem fsV_at {M C : List (List Int)} {V : List Int} {i : Nat} (h : i < (confs M.length (row C 0).length 0).length) : nth (fsV M C V) i = fsAt M C V (row (confs M.length (row C 0).length 0) i) C.length := map_nth h
/-- what the test gives -/
theorem fs_all {M C : List (List Int)} {V : List Int} (h : fsOk M C V = true) : Dst M M.length ∧ (1 ≤ (row C 0).length ∧ (row C 0).length ≤ 3) ∧ (1 ≤ C.length ∧ C.length ≤ 56) ∧ V.length = C.length ∧ ∀ j, j < C.length → row C j ∈ confs M.length (row C 0).length 0 ∧ 0 ≤ nth V j ∧ nth V j ≤ 99999 := by
  obtain ⟨h1, h2, h3, h4⟩ := fsOk_iff.1 h
  have h0 := fsC_iff.1 (h4 0 (by omega))
  exact ⟨dst_of_met h1, (cfgB_iff.1 h0.2.1).1, h2, h3, fun j hj => by
    obtain ⟨g1, g2, g3⟩ := fsC_iff.1 (h4 j hj)
    exact ⟨cfg_conf g2 g1, g3⟩⟩
theorem fs_mv {M C : List (List Int)} {V x : List Int} (h : fsOk M C V = true) (hx : x ∈ confs M.length (row C 0).length 0) : ∀ j, j < C.length → (0 ≤ nth V j ∧ nth V j ≤ 99999) ∧ 0 ≤ mvC M (row C j) x ∧ mvC M (row C j) x ≤ 297 := by
  obtain ⟨hd, hk, _, _, hc⟩ := fs_all h
  intro j hj
  obtain ⟨g1, g2⟩ := hc j hj
  have := mv_confs hd hk.2 g1 hx
  exact ⟨g2, this.1, this.2.1⟩
theorem fs_in {M C : List (List Int)} {V x : List Int} (h : fsOk M C V = true) (hx : x ∈ confs M.length (row C 0).length 0) : ∀ j, j ≤ C.length → -1 ≤ fsAt M C V x j ∧ fsAt M C V x j ≤ 100296 ∧ (1 ≤ j → 0 ≤ fsAt M C V x j) := by
  intro j
  induction j with
  | zero => intro _; simp [fsAt]
  | succ j ih =>
    intro hj
    obtain ⟨h1, h2, h3⟩ := ih (by omega)
    have := fs_mv h hx j (by omega)
    rw [fsAt]
    split
    · omega
    · rename_i hq
      omega
theorem fsV_i64 {M C : List (List Int)} {V : List Int} (h : fsOk M C V = true) : ∀ y ∈ fsV M C V, 0 ≤ y ∧ y ≤ 100296 := by
  intro y hy
  obtain ⟨x, hx, rfl⟩ := List.mem_map.1 hy
  obtain ⟨_, _, hC, _⟩ := fs_all h
  have := fs_in h hx C.length (Nat.le_refl _)
  omega

set_option maxHeartbeats 3200000 in
set_option maxRecDepth 100000 in
theorem specFS_any {v vC vV : Value} {M C : List (List Int)} {V : List Int} {w0 w : World} [Ext w0 w] (hm : IsMet w0 v M) (hC : IsRows w0 vC C) (hV : IsInts w0 vV V) :
    Calls Try.prog 14 #[v, vC, vV] w fun e w' => ∃ u, e = .returned (.tuple #[u, .bool (fsB M C V)]) ∧ Own w' w.heap.size [intRowOf 3 u (fsR M C V)] ∧ Ext w w' := by
  have hm' := hm
  have hC' := hC
  have hV' := hV
  obtain ⟨v1, rfl, hR⟩ := hm
  obtain ⟨a1, c1, rfl, l1⟩ := hR.form
  obtain ⟨dC, mC, rfl, lC⟩ := hC.form
  obtain ⟨dV, mV, rfl, lV⟩ := hV.form
  have x0 : (w.alloc (.cells #[.slice a1 M.length c1] 26)).cell? ⟨w.heap.size, 0, none⟩ = some (.slice a1 M.length c1) := by go_simp
  have eW : Ext w (w.alloc (.cells #[.slice a1 M.length c1] 26)) := inferInstance
  cases hO : fsOk M C V with
  | false =>
    replace hO := hid hO
    have hr := hid (show fsB M C V = false ∧ fsR M C V = [] by simp [fsR, fsB, hO.out])
    go_enter Try.func14, Try.ntmps14
    go_upto_region 1 with fail
    obtain ⟨bx, hbx⟩ : ∃ b, b = w.heap.size := ⟨_, rfl⟩
    have hBb := hid (show w.heap.size ≤ (w.alloc (.cells #[.slice a1 M.length c1] 26)).heap.size from eW.size)
    rw [← hbx] at x0 ⊢
    replace hbx := hid hbx
    generalize w.alloc (.cells #[.slice a1 M.length c1] 26) = W at *
    have e0W : Ext w0 W := Ext.trans ‹Ext w0 w› eW
    obtain ⟨B, hB⟩ : ∃ b, b = W.heap.size := ⟨_, rfl⟩
    have own0 : Own (W.alloc (.cells #[] 3)) B [intRowOf 3 (.slice (some ⟨W.heap.size, 0, none⟩) ([] : List Int).length 0) []] := by
      rw [hB]
      exact Own.litInts (Nat.le_refl _) rfl rfl (by simp) rfl
    have b0 : Below B W (W.alloc (.cells #[] 3)) := by rw [hB]; exact (Below.refl _ _).alloc (Nat.le_refl _) _
    have hEx := hid (show ∀ u, Below B W u → Ext W u from fun u h => ⟨by rw [← hB]; exact h⟩)
    have hBl := hid (show ∀ u, Ext W u → B ≤ u.heap.size from fun u e => by rw [hB]; exact e.size)
    rw [← hB] at hBb
    go_upto_region 2 with fail
    rw [← hB] at own0 ⊢
    replace hB := hid hB
    generalize W.alloc (.cells #[] 3) = w2 at *
    have e02 : Ext w0 w2 := Ext.trans e0W (hEx.out _ b0)
    have x2 := (hEx.out _ b0).cell x0
    go_wp2_with fail
    with_reducible refine (l7Listed_any (w0 := w0) hm' hC' hV').mono ?_
    rw [hO.out]
    rintro e w3 ⟨rfl, e3⟩
    have own3 := own0.ext (w' := w3)
    have b3 : Below B W w3 := b0.trans (e3.below.mono (hBl.out _ (hEx.out _ b0)))
    have x3 := (hEx.out _ b3).cell x0
    clear own0 b0 e02 e3 x2
    go_wp2_with fail
    go_ret2
    rw [hr.out.1, hr.out.2]
    exact ⟨_, rfl, own3.mono hBb.out, Ext.trans eW (hEx.out _ b3)⟩
  | true =>
    obtain ⟨hd, hk, hC56, hVl, hCc⟩ := fs_all hO
    have hfm := hid (fun x (hx : x ∈ confs M.length (row C 0).length 0) => fs_mv hO hx)
    have hfi := hid (fun x (hx : x ∈ confs M.length (row C 0).length 0) => fs_in hO hx)
    have hM := (fsOk_iff.1 hO).1
    have hMl := met_len hM
    have hMm := hid hM
    have h216 := confs_216 (n := M.length) (k := (row C 0).length) hMl.2 hk.2
    have hvi := hid (fsV_i64 hO)
    have hvat := hid (fun i (hi : i < (confs M.length (row C 0).length 0).length) => fsV_at (V := V) hi)
    have hvl := hid (fsV_len (M := M) (C := C) (V := V))
    have hPm := hid (show ∀ i, i < (confs M.length (row C 0).length 0).length → row (confs M.length (row C 0).length 0) i ∈ confs M.length (row C 0).length 0 from fun i hi => row_mem hi)
    have hBd := hid (show fsB M C V = (fsV M C V).all fun y => decide (y ≤ 99999) by rw [fsB, hO, Bool.true_and])
    have hCc' := hid hCc
    clear hd hM hCc
    replace hVl := hid hVl
    replace hO := hid hO
    obtain ⟨k, hkd⟩ : ∃ k, k = (row C 0).length := ⟨_, rfl⟩
    rw [← hkd] at hk h216 hfm hfi hvat hvl hPm hCc'
    replace hkd := hid hkd
    go_enter Try.func14, Try.ntmps14
    go_upto_region 1 with fail
    obtain ⟨bx, hbx⟩ : ∃ b, b = w.heap.size := ⟨_, rfl⟩
    have hBb := hid (show w.heap.size ≤ (w.alloc (.cells #[.slice a1 M.length c1] 26)).heap.size from eW.size)
    rw [← hbx] at x0 ⊢
    replace hbx := hid hbx
    generalize w.alloc (.cells #[.slice a1 M.length c1] 26) = W at *
    have e0W : Ext w0 W := Ext.trans ‹Ext w0 w› eW
    obtain ⟨B, hB⟩ : ∃ b, b = W.heap.size := ⟨_, rfl⟩
    have own0 : Own (W.alloc (.cells #[] 3)) B [intRowOf 3 (.slice (some ⟨W.heap.size, 0, none⟩) ([] : List Int).length 0) []] := by
      rw [hB]
      exact Own.litInts (Nat.le_refl _) rfl rfl (by simp) rfl
    have b0 : Below B W (W.alloc (.cells #[] 3)) := by rw [hB]; exact (Below.refl _ _).alloc (Nat.le_refl _) _
    have hEx := hid (show ∀ u, Below B W u → Ext W u from fun u h => ⟨by rw [← hB]; exact h⟩)
    have hBl := hid (show ∀ u, Ext W u → B ≤ u.heap.size from fun u e => by rw [hB]; exact e.size)
    rw [← hB] at hBb
    go_upto_region 2 with fail
    rw [← hB] at own0 ⊢
    replace hB := hid hB
    generalize W.alloc (.cells #[] 3) = w2 at *
    have e02 : Ext w0 w2 := Ext.trans e0W (hEx.out _ b0)
    have x2 := (hEx.out _ b0).cell x0
    go_wp2_with fail
    with_reducible refine (l7Listed_any (w0 := w0) hm' hC' hV').mono ?_
    rw [hO.out]
    rintro e w3 ⟨rfl, e3⟩
    have own3 := own0.ext (w' := w3)
    have b3 : Below B W w3 := b0.trans (e3.below.mono (hBl.out _ (hEx.out _ b0)))
    have x3 := (hEx.out _ b3).cell x0
    clear own0 b0 e02 e3 x2
    have e3W : Ext W w3 := hEx.out _ b3
    have e03 : Ext w0 w3 := Ext.trans e0W e3W
    have hB3 := hBl.out _ e3W
    obtain ⟨bC, oC, d7, m7, rfl, hc7, hi7, l7⟩ := hC.at (w' := w3) (k := 0) (by omega)
    have hCne : ¬ C = [] := by rintro rfl; simp at hC56
    rw [← hkd.out, Nat.add_zero] at hc7
    go_upto_region 4 with fail
    refine region_held_from (w0 := w3) (S := fun u => u.cell? ⟨bC, oC, none⟩ = some (.slice d7 k m7) ∧ u.cell? ⟨bx, 0, none⟩ = some (.slice a1 M.length c1)) (by kernel_rfl) (fun u e => ⟨e.cell hc7, e.cell x3⟩) (fun wd ed hHeld0 => ?_)
    refine wpAnyH_take (i := 0) (v := .pointer (some ⟨bx, 0, none⟩)) rfl (by kernel_rfl) (by kernel_rfl) (by kernel_rfl) (fun _ _ _ h => h) (Or.inl ⟨by rfl, by intro wx hx; go_simp⟩) (by assumption) ?_
    try simp only [List.getElem_toArray, List.getElem_cons_zero, Act.put, List.setIfInBounds_toArray, List.set_cons_zero, List.set_cons_succ]
    refine wpAnyH_take (i := 1) (v := .slice a1 M.length c1) rfl (by kernel_rfl) (by kernel_rfl) (by kernel_rfl) (fun _ _ _ h => h) (Or.inl ⟨by rfl, by intro wx hx; obtain ⟨_, _⟩ := hx; go_simp⟩) (by assumption) ?_
    try simp only [List.getElem_toArray, List.getElem_cons_succ, List.getElem_cons_zero, Act.put, List.setIfInBounds_toArray, List.set_cons_zero, List.set_cons_succ]
    refine wpAnyH_take (i := 2) (v := .int .i64 M.length) rfl (by kernel_rfl) (by kernel_rfl) (by kernel_rfl) (fun _ _ _ h => h) (Or.inl ⟨by rfl, by intro wx hx; go_simp⟩) (by assumption) ?_
    try simp only [List.getElem_toArray, List.getElem_cons_succ, List.getElem_cons_zero, Act.put, List.setIfInBounds_toArray, List.set_cons_zero, List.set_cons_succ]
    refine wpAnyH_take (i := 3) (v := .slice (some ⟨bC, oC, none⟩) C.length mC) rfl (by kernel_rfl) (by kernel_rfl) (by kernel_rfl) (fun _ _ _ h => h) (Or.inl ⟨by rfl, by intro wx hx; go_simp⟩) (by assumption) ?_
    try simp only [List.getElem_toArray, List.getElem_cons_succ, List.getElem_cons_zero, Act.put, List.setIfInBounds_toArray, List.set_cons_zero, List.set_cons_succ]
    refine wpAnyH_take (i := 4) (v := .pointer (some ⟨bC, oC, none⟩)) rfl (by kernel_rfl) (by kernel_rfl) (by kernel_rfl) (fun _ _ _ h => h) (Or.inl ⟨by rfl, by intro wx hx; go_simp⟩) (by assumption) ?_
    try simp only [List.getElem_toArray, List.getElem_cons_succ, List.getElem_cons_zero, Act.put, List.setIfInBounds_toArray, List.set_cons_zero, List.set_cons_succ]
    refine wpAnyH_take (i := 5) (v := .slice d7 k m7) rfl (by kernel_rfl) (by kernel_rfl) (by kernel_rfl) (fun _ _ _ h => h) (Or.inl ⟨by rfl, by intro wx hx; obtain ⟨_, _⟩ := hx; go_simp⟩) (by assumption) ?_
    try simp only [List.getElem_toArray, List.getElem_cons_succ, List.getElem_cons_zero, Act.put, List.setIfInBounds_toArray, List.set_cons_zero, List.set_cons_succ]
    refine wpAnyH_take (i := 6) (v := .int .i64 k) rfl (by kernel_rfl) (by kernel_rfl) (by kernel_rfl) (fun _ _ _ h => h) (Or.inl ⟨by rfl, by intro wx hx; go_simp⟩) (by assumption) ?_
    try simp only [List.getElem_toArray, List.getElem_cons_succ, List.getElem_cons_zero, Act.put, List.setIfInBounds_toArray, List.set_cons_zero, List.set_cons_succ]
    refine wpAnyH_ready (rs := [7]) (by kernel_rfl) (by simp) ?_
    refine AllReadyH.cons rfl (fun K hK => ?_) AllReadyH.nil
    go_simp
    go_at_call 43
    with_reducible refine (l6ConfigsO_any (n := M.length) (k := k) hMl.2 hk.2 wd).mono ?_
    rintro e w4 ⟨vP, RP, rfl, tabP, e4⟩
    have e34 : Ext w3 w4 := Ext.trans ed e4
    have hrow := hid (confs_rows (f := 0) hMl.2 hk.2)
    obtain ⟨P, hPd⟩ : ∃ p, p = confs M.length k 0 := ⟨_, rfl⟩
    rw [← hPd] at h216 hfm hfi hvat hvl hPm hCc' tabP hrow
    replace hPd := hid hPd
    obtain ⟨aP, cP, rfl⟩ := tabP.form
    obtain ⟨vsP, hvP, ownP⟩ := tabP
    obtain ⟨Z, hZd⟩ : ∃ z, z = rowsOf 27 3 (.slice aP P.length cP) vsP P ++ RP := ⟨_, rfl⟩
    have hZ := hid (show ∀ u, Own u B Z → IsRows u (.slice aP P.length cP) P from fun u o => by
      rw [hZd] at o
      exact (show Tab u B _ _ RP from ⟨vsP, hvP, o⟩).reads hrow.out.1 hrow.out.2.1 hrow.out.2.2)
    rw [← hZd] at ownP
    have own4 := Own.swap (Own.join (own3.ext (w' := wd)) ownP (hB := Nat.le_trans hB3 ed.size))
    clear hZd hvP
    go_wp2_with fail
    refine hK.out _ _ ⟨e34.cell hc7, e34.cell x3⟩ (fun _ => ?_)
    clear hK K
    try simp only [List.getElem_toArray, List.getElem_cons_succ, List.getElem_cons_zero, Act.put, List.setIfInBounds_toArray, List.set_cons_zero, List.set_cons_succ]
    refine wpAnyH_take (i := 8) (v := .slice aP P.length cP) rfl (by kernel_rfl) (by kernel_rfl) (by kernel_rfl) (fun _ _ _ h => h) (Or.inl ⟨by rfl, by intro wx hx; go_simp⟩) (by assumption) ?_
    try simp only [List.getElem_toArray, List.getElem_cons_succ, List.getElem_cons_zero, Act.put, List.setIfInBounds_toArray, List.set_cons_zero, List.set_cons_succ]
    refine wpAnyH_done (by kernel_rfl) ?_ _
    have b4 : Below B W w4 := b3.trans (e34.below.mono hB3)
    obtain ⟨F, hF⟩ : ∃ f, f = fsV M C V := ⟨_, rfl⟩
    rw [← hF] at hvi hvat hvl hBd
    have hFr := hid (show fsR M C V = if fsB M C V then F else [] by rw [hF]; rfl)
    replace hF := hid hF
    have hCz := hC.at (w' := w0) (k := 0) (by omega)
    clear own3 b3 x3 hc7 ed e4 e3W hB3 e03 e34 ownP hCz
    have hxW := hid x0
    clear x0
    go_wp2_with fail
    go_loopw [8, 10] (fun ov iv wr => ∃ i : Nat, i ≤ P.length ∧ iv = .int .i64 i ∧ Own wr B (intRowOf 3 ov (F.take i) :: Z) ∧ Hid (∀ z, z < i → nth F z ≤ 99999) ∧ Below B W wr) (fun _ iv _ => P.length - (intOf iv).toNat)
    case atStart => exact ⟨0, by omega, rfl, by rw [List.take_zero]; exact own4, hid (fun z hz => absurd hz (Nat.not_lt_zero z)), b4⟩
    case round =>
      clear own4 b4
      obtain ⟨i, hi, rfl, own, hsm, hb⟩ := hrel
      obtain ⟨wq, rfl⟩ : ∃ y : World, y = wr := ⟨_, rfl⟩
      have eq : Ext W wq := hEx.out _ hb
      have e0q : Ext w0 wq := Ext.trans e0W eq
      have hBq := hBl.out _ eq
      obtain ⟨dO, nO, mO, rfl, hnO⟩ := own_formN own
      by_cases hlt : i < P.length
      · have hP := hZ.out wq own.tail
        have hxm := hPm.out i hlt
        have hx1 := hid (hfm.out _ hxm)
        have hx2 := hid (hfi.out _ hxm)
        have hxF := hid (hvat.out i hlt)
        have hxl : (row P i).length = k ∧ Pts M.length (row P i) := conf_pts (hPd.out ▸ hxm)
        obtain ⟨bP, oP, d6, m6, rfl, hc6, hi6, _⟩ := hP.at (w' := wq) hlt
        have hx0 := eq.cell hxW.out
        obtain ⟨x, hxd⟩ : ∃ x, x = row P i := ⟨_, rfl⟩
        rw [← hxd] at hx1 hx2 hxF hxl hc6 hi6
        have hxk := hid hxl.1
        have hxpt := hid hxl.2
        replace hxd := hid hxd
        clear hxl hxm
        go_wp2_with fail
        go_loopw [11, 12] (fun lv jv wr => ∃ j : Nat, j ≤ C.length ∧ jv = .int .i64 j ∧ lv = .int .i64 (fsAt M C V x j) ∧ Ext wq wr) (fun _ jv _ => C.length - (intOf jv).toNat)
        case atStart => exact ⟨0, by omega, rfl, rfl, Ext.refl _⟩
        case round =>
          obtain ⟨j, hj, rfl, rfl, eqj⟩ := hrel
          obtain ⟨wj, rfl⟩ : ∃ y : World, y = wr := ⟨_, rfl⟩
          by_cases hltj : j < C.length
          · obtain ⟨bC', oC', d5, m5, hd5, hc5, hi5, _⟩ := hC.at (w' := wq) hltj
            cases hd5
            have hltV : j < V.length := by rw [hVl.out]; exact hltj
            obtain ⟨bV, oV, rfl, hcV⟩ := hV.at (w' := wq) hltV
            obtain ⟨hq1, hq2⟩ := hx1.out j hltj
            have hq3 := hx2.out j hj
            have hcc := hCc'.out j hltj
            have hcl : (row C j).length = k ∧ Pts M.length (row C j) := conf_pts (hPd.out ▸ hcc.1)
            have hnx := hid (show fsAt M C V x (j + 1) = if fsAt M C V x j < 0 ∨ nth V j + mvC M (row C j) x < fsAt M C V x j then nth V j + mvC M (row C j) x else fsAt M C V x j from rfl)
            obtain ⟨l, hld⟩ : ∃ l, l = fsAt M C V x j := ⟨_, rfl⟩
            rw [← hld] at hq3 hnx ⊢
            obtain ⟨mv, hmvd⟩ : ∃ l, l = mvC M (row C j) x := ⟨_, rfl⟩
            rw [← hmvd] at hq2 hnx
            obtain ⟨y, hyd⟩ : ∃ l, l = nth V j := ⟨_, rfl⟩
            rw [← hyd] at hq1 hnx hcV
            obtain ⟨c, hcd⟩ : ∃ l, l = row C j := ⟨_, rfl⟩
            rw [← hcd] at hcl hmvd hc5 hi5
            have hcx := hid (show c.length = x.length by rw [hcl.1, hxk.out])
            have hcpt := hid hcl.2
            have hc3 : c.length ≤ 3 := by rw [hcl.1]; exact hk.2
            replace hld := hid hld
            replace hmvd := hid hmvd.symm
            replace hyd := hid hyd
            replace hcd := hid hcd
            have hSx := hid (show ∀ u, Ext wq u → u.cell? ⟨bC, oC + j, none⟩ = some (.slice d5 c.length m5) ∧ u.cell? ⟨bP, oP + i, none⟩ = some (.slice d6 x.length m6) ∧ u.cell? ⟨bx, 0, none⟩ = some (.slice a1 M.length c1) ∧ u.cell? ⟨bV, oV + j, none⟩ = some (.int .i64 y) from fun u e => ⟨e.cell hc5, e.cell hc6, e.cell hx0, e.cell hcV⟩)
            clear hc5 hcV hcl hcc
            have hs1 : IntKind.i64.wrap (y + mv) = y + mv := IntWalk.i64_in _ (by omega)
            by_cases hl0 : l < 0
            · have hl0d : decide (l < 0) = true := decide_eq_true hl0
              have hyy := hid (show fsAt M C V x (j + 1) = y + mv by rw [hnx.out, if_pos (.inl hl0)])
              clear hnx
              go_wp2_with fail
              refine region_held_from (w0 := wq) (S := fun u => u.cell? ⟨bC, oC + j, none⟩ = some (.slice d5 c.length m5) ∧ u.cell? ⟨bP, oP + i, none⟩ = some (.slice d6 x.length m6) ∧ u.cell? ⟨bx, 0, none⟩ = some (.slice a1 M.length c1) ∧ u.cell? ⟨bV, oV + j, none⟩ = some (.int .i64 y)) (by kernel_rfl) hSx.out (fun wd ed hHeld0 => ?_)
              refine wpAnyH_take (i := 0) (v := .slice (some ⟨bV, oV, none⟩) V.length mV) rfl (by kernel_rfl) (by kernel_rfl) (by kernel_rfl) (fun _ _ _ h => h) (Or.inl ⟨by rfl, by intro wx hx; go_simp⟩) (by assumption) ?_
              try simp only [List.getElem_toArray, List.getElem_cons_zero, Act.put, List.setIfInBounds_toArray, List.set_cons_zero, List.set_cons_succ]
              refine wpAnyH_take (i := 1) (v := .int .i64 j) rfl (by kernel_rfl) (by kernel_rfl) (by kernel_rfl) (fun _ _ _ h => h) (Or.inl ⟨by rfl, by intro wx hx; go_simp⟩) (by assumption) ?_
              try simp only [List.getElem_toArray, List.getElem_cons_succ, List.getElem_cons_zero, Act.put, List.setIfInBounds_toArray, List.set_cons_zero, List.set_cons_succ]
              refine wpAnyH_take (i := 2) (v := .pointer (some ⟨bV, oV + j, none⟩)) rfl (by kernel_rfl) (by kernel_rfl) (by kernel_rfl) (fun _ _ _ h => h) (Or.inl ⟨by rfl, by intro wx hx; go_simp⟩) (by assumption) ?_
              try simp only [List.getElem_toArray, List.getElem_cons_succ, List.getElem_cons_zero, Act.put, List.setIfInBounds_toArray, List.set_cons_zero, List.set_cons_succ]
              refine wpAnyH_take (i := 3) (v := .int .i64 y) rfl (by kernel_rfl) (by kernel_rfl) (by kernel_rfl) (fun _ _ _ h => h) (Or.inl ⟨by rfl, by intro wx hx; obtain ⟨_, _, _, _⟩ := hx; go_simp⟩) (by assumption) ?_
              try simp only [List.getElem_toArray, List.getElem_cons_succ, List.getElem_cons_zero, Act.put, List.setIfInBounds_toArray, List.set_cons_zero, List.set_cons_succ]
              refine wpAnyH_take (i := 4) (v := .agg #[.slice a1 M.length c1]) rfl (by kernel_rfl) (by kernel_rfl) (by kernel_rfl) (fun _ _ _ h => h) (Or.inl ⟨by rfl, by intro wx hx; obtain ⟨_, _, _, _⟩ := hx; go_simp⟩) (by assumption) ?_
              try simp only [List.getElem_toArray, List.getElem_cons_succ, List.getElem_cons_zero, Act.put, List.setIfInBounds_toArray, List.set_cons_zero, List.set_cons_succ]
              refine wpAnyH_take (i := 5) (v := .slice (some ⟨bC, oC, none⟩) C.length mC) rfl (by kernel_rfl) (by kernel_rfl) (by kernel_rfl) (fun _ _ _ h => h) (Or.inl ⟨by rfl, by intro wx hx; go_simp⟩) (by assumption) ?_
              try simp only [List.getElem_toArray, List.getElem_cons_succ, List.getElem_cons_zero, Act.put, List.setIfInBounds_toArray, List.set_cons_zero, List.set_cons_succ]
              refine wpAnyH_take (i := 6) (v := .int .i64 j) rfl (by kernel_rfl) (by kernel_rfl) (by kernel_rfl) (fun _ _ _ h => h) (Or.inl ⟨by rfl, by intro wx hx; go_simp⟩) (by assumption) ?_
              try simp only [List.getElem_toArray, List.getElem_cons_succ, List.getElem_cons_zero, Act.put, List.setIfInBounds_toArray, List.set_cons_zero, List.set_cons_succ]
              refine wpAnyH_take (i := 7) (v := .pointer (some ⟨bC, oC + j, none⟩)) rfl (by kernel_rfl) (by kernel_rfl) (by kernel_rfl) (fun _ _ _ h => h) (Or.inl ⟨by rfl, by intro wx hx; go_simp⟩) (by assumption) ?_
              try simp only [List.getElem_toArray, List.getElem_cons_succ, List.getElem_cons_zero, Act.put, List.setIfInBounds_toArray, List.set_cons_zero, List.set_cons_succ]
              refine wpAnyH_take (i := 8) (v := .slice d5 c.length m5) rfl (by kernel_rfl) (by kernel_rfl) (by kernel_rfl) (fun _ _ _ h => h) (Or.inl ⟨by rfl, by intro wx hx; obtain ⟨_, _, _, _⟩ := hx; go_simp⟩) (by assumption) ?_
              try simp only [List.getElem_toArray, List.getElem_cons_succ, List.getElem_cons_zero, Act.put, List.setIfInBounds_toArray, List.set_cons_zero, List.set_cons_succ]
              refine wpAnyH_take (i := 9) (v := .slice (some ⟨bP, oP, none⟩) P.length cP) rfl (by kernel_rfl) (by kernel_rfl) (by kernel_rfl) (fun _ _ _ h => h) (Or.inl ⟨by rfl, by intro wx hx; go_simp⟩) (by assumption) ?_
              try simp only [List.getElem_toArray, List.getElem_cons_succ, List.getElem_cons_zero, Act.put, List.setIfInBounds_toArray, List.set_cons_zero, List.set_cons_succ]
              refine wpAnyH_take (i := 10) (v := .int .i64 i) rfl (by kernel_rfl) (by kernel_rfl) (by kernel_rfl) (fun _ _ _ h => h) (Or.inl ⟨by rfl, by intro wx hx; go_simp⟩) (by assumption) ?_
              try simp only [List.getElem_toArray, List.getElem_cons_succ, List.getElem_cons_zero, Act.put, List.setIfInBounds_toArray, List.set_cons_zero, List.set_cons_succ]
              refine wpAnyH_take (i := 11) (v := .pointer (some ⟨bP, oP + i, none⟩)) rfl (by kernel_rfl) (by kernel_rfl) (by kernel_rfl) (fun _ _ _ h => h) (Or.inl ⟨by rfl, by intro wx hx; go_simp⟩) (by assumption) ?_
              try simp only [List.getElem_toArray, List.getElem_cons_succ, List.getElem_cons_zero, Act.put, List.setIfInBounds_toArray, List.set_cons_zero, List.set_cons_succ]
              refine wpAnyH_take (i := 12) (v := .slice d6 x.length m6) rfl (by kernel_rfl) (by kernel_rfl) (by kernel_rfl) (fun _ _ _ h => h) (Or.inl ⟨by rfl, by intro wx hx; obtain ⟨_, _, _, _⟩ := hx; go_simp⟩) (by assumption) ?_
              try simp only [List.getElem_toArray, List.getElem_cons_succ, List.getElem_cons_zero, Act.put, List.setIfInBounds_toArray, List.set_cons_zero, List.set_cons_succ]
              refine wpAnyH_ready (rs := [13]) (by kernel_rfl) (by simp) ?_
              refine AllReadyH.cons rfl (fun K hK => ?_) AllReadyH.nil
              go_simp
              go_at_call 60
              refine (l6Move_any (w0 := wd) (w := wd) (hm'.ext (e := Ext.trans e0q ed)) hMm.out (hi5.ext (e := Ext.trans e0q ed)) (hi6.ext (e := ed)) hcpt.out hxpt.out hcx.out (by omega)).mono ?_
              rw [hmvd.out]
              rintro e w6 ⟨rfl, e6⟩
              have e6q : Ext wq w6 := Ext.trans ed e6
              have hS6 := hSx.out w6 e6q
              go_wp2_with fail
              refine hK.out _ _ hS6 (fun _ => ?_)
              clear hK K
              try simp only [List.getElem_toArray, List.getElem_cons_succ, List.getElem_cons_zero, Act.put, List.setIfInBounds_toArray, List.set_cons_zero, List.set_cons_succ]
              refine wpAnyH_take (i := 14) (v := .int .i64 (y + mv)) rfl (by kernel_rfl) (by kernel_rfl) (by kernel_rfl) (fun _ _ _ h => h) (Or.inl ⟨by rfl, by intro wx hx; go_simp⟩) (by assumption) ?_
              try simp only [List.getElem_toArray, List.getElem_cons_succ, List.getElem_cons_zero, Act.put, List.setIfInBounds_toArray, List.set_cons_zero, List.set_cons_succ]
              refine wpAnyH_take (i := 15) (v := .int .i64 (y + mv)) rfl (by kernel_rfl) (by kernel_rfl) (by kernel_rfl) (fun _ _ _ h => h) (Or.inl ⟨by rfl, by intro wx hx; go_simp⟩) (by assumption) ?_
              try simp only [List.getElem_toArray, List.getElem_cons_succ, List.getElem_cons_zero, Act.put, List.setIfInBounds_toArray, List.set_cons_zero, List.set_cons_succ]
              refine wpAnyH_done (by kernel_rfl) ?_ _
              go_wp2_with fail
              go_roundw
              case rel => exact ⟨j + 1, by omega, by go_num, by rw [hyy.out], e6q⟩
              case measure => simp [intOf]; omega
            · have hl0d : decide (l < 0) = false := decide_eq_false hl0
              by_cases hl1 : y + mv < l
              · have hl1d : decide (y + mv < l) = true := decide_eq_true hl1
                have hyy := hid (show fsAt M C V x (j + 1) = y + mv by rw [hnx.out, if_pos (.inr hl1)])
                clear hnx
                go_wp2_with fail
                refine region_held_from (w0 := wq) (S := fun u => u.cell? ⟨bC, oC + j, none⟩ = some (.slice d5 c.length m5) ∧ u.cell? ⟨bP, oP + i, none⟩ = some (.slice d6 x.length m6) ∧ u.cell? ⟨bx, 0, none⟩ = some (.slice a1 M.length c1) ∧ u.cell? ⟨bV, oV + j, none⟩ = some (.int .i64 y)) (by kernel_rfl) hSx.out (fun wd ed hHeld0 => ?_)
                refine wpAnyH_take (i := 0) (v := .slice (some ⟨bV, oV, none⟩) V.length mV) rfl (by kernel_rfl) (by kernel_rfl) (by kernel_rfl) (fun _ _ _ h => h) (Or.inl ⟨by rfl, by intro wx hx; go_simp⟩) (by assumption) ?_
                try simp only [List.getElem_toArray, List.getElem_cons_zero, Act.put, List.setIfInBounds_toArray, List.set_cons_zero, List.set_cons_succ]
                refine wpAnyH_take (i := 1) (v := .int .i64 j) rfl (by kernel_rfl) (by kernel_rfl) (by kernel_rfl) (fun _ _ _ h => h) (Or.inl ⟨by rfl, by intro wx hx; go_simp⟩) (by assumption) ?_
                try simp only [List.getElem_toArray, List.getElem_cons_succ, List.getElem_cons_zero, Act.put, List.setIfInBounds_toArray, List.set_cons_zero, List.set_cons_succ]
                refine wpAnyH_take (i := 2) (v := .pointer (some ⟨bV, oV + j, none⟩)) rfl (by kernel_rfl) (by kernel_rfl) (by kernel_rfl) (fun _ _ _ h => h) (Or.inl ⟨by rfl, by intro wx hx; go_simp⟩) (by assumption) ?_
                try simp only [List.getElem_toArray, List.getElem_cons_succ, List.getElem_cons_zero, Act.put, List.setIfInBounds_toArray, List.set_cons_zero, List.set_cons_succ]
                refine wpAnyH_take (i := 3) (v := .int .i64 y) rfl (by kernel_rfl) (by kernel_rfl) (by kernel_rfl) (fun _ _ _ h => h) (Or.inl ⟨by rfl, by intro wx hx; obtain ⟨_, _, _, _⟩ := hx; go_simp⟩) (by assumption) ?_
                try simp only [List.getElem_toArray, List.getElem_cons_succ, List.getElem_cons_zero, Act.put, List.setIfInBounds_toArray, List.set_cons_zero, List.set_cons_succ]
                refine wpAnyH_take (i := 4) (v := .agg #[.slice a1 M.length c1]) rfl (by kernel_rfl) (by kernel_rfl) (by kernel_rfl) (fun _ _ _ h => h) (Or.inl ⟨by rfl, by intro wx hx; obtain ⟨_, _, _, _⟩ := hx; go_simp⟩) (by assumption) ?_
                try simp only [List.getElem_toArray, List.getElem_cons_succ, List.getElem_cons_zero, Act.put, List.setIfInBounds_toArray, List.set_cons_zero, List.set_cons_succ]
                refine wpAnyH_take (i := 5) (v := .slice (some ⟨bC, oC, none⟩) C.length mC) rfl (by kernel_rfl) (by kernel_rfl) (by kernel_rfl) (fun _ _ _ h => h) (Or.inl ⟨by rfl, by intro wx hx; go_simp⟩) (by assumption) ?_
                try simp only [List.getElem_toArray, List.getElem_cons_succ, List.getElem_cons_zero, Act.put, List.setIfInBounds_toArray, List.set_cons_zero, List.set_cons_succ]
                refine wpAnyH_take (i := 6) (v := .int .i64 j) rfl (by kernel_rfl) (by kernel_rfl) (by kernel_rfl) (fun _ _ _ h => h) (Or.inl ⟨by rfl, by intro wx hx; go_simp⟩) (by assumption) ?_
                try simp only [List.getElem_toArray, List.getElem_cons_succ, List.getElem_cons_zero, Act.put, List.setIfInBounds_toArray, List.set_cons_zero, List.set_cons_succ]
                refine wpAnyH_take (i := 7) (v := .pointer (some ⟨bC, oC + j, none⟩)) rfl (by kernel_rfl) (by kernel_rfl) (by kernel_rfl) (fun _ _ _ h => h) (Or.inl ⟨by rfl, by intro wx hx; go_simp⟩) (by assumption) ?_
                try simp only [List.getElem_toArray, List.getElem_cons_succ, List.getElem_cons_zero, Act.put, List.setIfInBounds_toArray, List.set_cons_zero, List.set_cons_succ]
                refine wpAnyH_take (i := 8) (v := .slice d5 c.length m5) rfl (by kernel_rfl) (by kernel_rfl) (by kernel_rfl) (fun _ _ _ h => h) (Or.inl ⟨by rfl, by intro wx hx; obtain ⟨_, _, _, _⟩ := hx; go_simp⟩) (by assumption) ?_
                try simp only [List.getElem_toArray, List.getElem_cons_succ, List.getElem_cons_zero, Act.put, List.setIfInBounds_toArray, List.set_cons_zero, List.set_cons_succ]
                refine wpAnyH_take (i := 9) (v := .slice (some ⟨bP, oP, none⟩) P.length cP) rfl (by kernel_rfl) (by kernel_rfl) (by kernel_rfl) (fun _ _ _ h => h) (Or.inl ⟨by rfl, by intro wx hx; go_simp⟩) (by assumption) ?_
                try simp only [List.getElem_toArray, List.getElem_cons_succ, List.getElem_cons_zero, Act.put, List.setIfInBounds_toArray, List.set_cons_zero, List.set_cons_succ]
                refine wpAnyH_take (i := 10) (v := .int .i64 i) rfl (by kernel_rfl) (by kernel_rfl) (by kernel_rfl) (fun _ _ _ h => h) (Or.inl ⟨by rfl, by intro wx hx; go_simp⟩) (by assumption) ?_
                try simp only [List.getElem_toArray, List.getElem_cons_succ, List.getElem_cons_zero, Act.put, List.setIfInBounds_toArray, List.set_cons_zero, List.set_cons_succ]
                refine wpAnyH_take (i := 11) (v := .pointer (some ⟨bP, oP + i, none⟩)) rfl (by kernel_rfl) (by kernel_rfl) (by kernel_rfl) (fun _ _ _ h => h) (Or.inl ⟨by rfl, by intro wx hx; go_simp⟩) (by assumption) ?_
                try simp only [List.getElem_toArray, List.getElem_cons_succ, List.getElem_cons_zero, Act.put, List.setIfInBounds_toArray, List.set_cons_zero, List.set_cons_succ]
                refine wpAnyH_take (i := 12) (v := .slice d6 x.length m6) rfl (by kernel_rfl) (by kernel_rfl) (by kernel_rfl) (fun _ _ _ h => h) (Or.inl ⟨by rfl, by intro wx hx; obtain ⟨_, _, _, _⟩ := hx; go_simp⟩) (by assumption) ?_
                try simp only [List.getElem_toArray, List.getElem_cons_succ, List.getElem_cons_zero, Act.put, List.setIfInBounds_toArray, List.set_cons_zero, List.set_cons_succ]
                refine wpAnyH_ready (rs := [13]) (by kernel_rfl) (by simp) ?_
                refine AllReadyH.cons rfl (fun K hK => ?_) AllReadyH.nil
                go_simp
                go_at_call 60
                refine (l6Move_any (w0 := wd) (w := wd) (hm'.ext (e := Ext.trans e0q ed)) hMm.out (hi5.ext (e := Ext.trans e0q ed)) (hi6.ext (e := ed)) hcpt.out hxpt.out hcx.out (by omega)).mono ?_
                rw [hmvd.out]
                rintro e w6 ⟨rfl, e6⟩
                have e6q : Ext wq w6 := Ext.trans ed e6
                have hS6 := hSx.out w6 e6q
                go_wp2_with fail
                refine hK.out _ _ hS6 (fun _ => ?_)
                clear hK K
                try simp only [List.getElem_toArray, List.getElem_cons_succ, List.getElem_cons_zero, Act.put, List.setIfInBounds_toArray, List.set_cons_zero, List.set_cons_succ]
                refine wpAnyH_take (i := 14) (v := .int .i64 (y + mv)) rfl (by kernel_rfl) (by kernel_rfl) (by kernel_rfl) (fun _ _ _ h => h) (Or.inl ⟨by rfl, by intro wx hx; go_simp⟩) (by assumption) ?_
                try simp only [List.getElem_toArray, List.getElem_cons_succ, List.getElem_cons_zero, Act.put, List.setIfInBounds_toArray, List.set_cons_zero, List.set_cons_succ]
                refine wpAnyH_take (i := 15) (v := .int .i64 (y + mv)) rfl (by kernel_rfl) (by kernel_rfl) (by kernel_rfl) (fun _ _ _ h => h) (Or.inl ⟨by rfl, by intro wx hx; go_simp⟩) (by assumption) ?_
                try simp only [List.getElem_toArray, List.getElem_cons_succ, List.getElem_cons_zero, Act.put, List.setIfInBounds_toArray, List.set_cons_zero, List.set_cons_succ]
                refine wpAnyH_done (by kernel_rfl) ?_ _
                go_wp2_with fail
                go_roundw
                case rel => exact ⟨j + 1, by omega, by go_num, by rw [hyy.out], e6q⟩
                case measure => simp [intOf]; omega
              · have hl1d : decide (y + mv < l) = false := decide_eq_false hl1
                have hyy := hid (show fsAt M C V x (j + 1) = l by rw [hnx.out, if_neg (by omega)])
                clear hnx
                go_wp2_with fail
                refine region_held_from (w0 := wq) (S := fun u => u.cell? ⟨bC, oC + j, none⟩ = some (.slice d5 c.length m5) ∧ u.cell? ⟨bP, oP + i, none⟩ = some (.slice d6 x.length m6) ∧ u.cell? ⟨bx, 0, none⟩ = some (.slice a1 M.length c1) ∧ u.cell? ⟨bV, oV + j, none⟩ = some (.int .i64 y)) (by kernel_rfl) hSx.out (fun wd ed hHeld0 => ?_)
                refine wpAnyH_take (i := 0) (v := .slice (some ⟨bV, oV, none⟩) V.length mV) rfl (by kernel_rfl) (by kernel_rfl) (by kernel_rfl) (fun _ _ _ h => h) (Or.inl ⟨by rfl, by intro wx hx; go_simp⟩) (by assumption) ?_
                try simp only [List.getElem_toArray, List.getElem_cons_zero, Act.put, List.setIfInBounds_toArray, List.set_cons_zero, List.set_cons_succ]
                refine wpAnyH_take (i := 1) (v := .int .i64 j) rfl (by kernel_rfl) (by kernel_rfl) (by kernel_rfl) (fun _ _ _ h => h) (Or.inl ⟨by rfl, by intro wx hx; go_simp⟩) (by assumption) ?_
                try simp only [List.getElem_toArray, List.getElem_cons_succ, List.getElem_cons_zero, Act.put, List.setIfInBounds_toArray, List.set_cons_zero, List.set_cons_succ]
                refine wpAnyH_take (i := 2) (v := .pointer (some ⟨bV, oV + j, none⟩)) rfl (by kernel_rfl) (by kernel_rfl) (by kernel_rfl) (fun _ _ _ h => h) (Or.inl ⟨by rfl, by intro wx hx; go_simp⟩) (by assumption) ?_
                try simp only [List.getElem_toArray, List.getElem_cons_succ, List.getElem_cons_zero, Act.put, List.setIfInBounds_toArray, List.set_cons_zero, List.set_cons_succ]
                refine wpAnyH_take (i := 3) (v := .int .i64 y) rfl (by kernel_rfl) (by kernel_rfl) (by kernel_rfl) (fun _ _ _ h => h) (Or.inl ⟨by rfl, by intro wx hx; obtain ⟨_, _, _, _⟩ := hx; go_simp⟩) (by assumption) ?_
                try simp only [List.getElem_toArray, List.getElem_cons_succ, List.getElem_cons_zero, Act.put, List.setIfInBounds_toArray, List.set_cons_zero, List.set_cons_succ]
                refine wpAnyH_take (i := 4) (v := .agg #[.slice a1 M.length c1]) rfl (by kernel_rfl) (by kernel_rfl) (by kernel_rfl) (fun _ _ _ h => h) (Or.inl ⟨by rfl, by intro wx hx; obtain ⟨_, _, _, _⟩ := hx; go_simp⟩) (by assumption) ?_
                try simp only [List.getElem_toArray, List.getElem_cons_succ, List.getElem_cons_zero, Act.put, List.setIfInBounds_toArray, List.set_cons_zero, List.set_cons_succ]
                refine wpAnyH_take (i := 5) (v := .slice (some ⟨bC, oC, none⟩) C.length mC) rfl (by kernel_rfl) (by kernel_rfl) (by kernel_rfl) (fun _ _ _ h => h) (Or.inl ⟨by rfl, by intro wx hx; go_simp⟩) (by assumption) ?_
                try simp only [List.getElem_toArray, List.getElem_cons_succ, List.getElem_cons_zero, Act.put, List.setIfInBounds_toArray, List.set_cons_zero, List.set_cons_succ]
                refine wpAnyH_take (i := 6) (v := .int .i64 j) rfl (by kernel_rfl) (by kernel_rfl) (by kernel_rfl) (fun _ _ _ h => h) (Or.inl ⟨by rfl, by intro wx hx; go_simp⟩) (by assumption) ?_
                try simp only [List.getElem_toArray, List.getElem_cons_succ, List.getElem_cons_zero, Act.put, List.setIfInBounds_toArray, List.set_cons_zero, List.set_cons_succ]
                refine wpAnyH_take (i := 7) (v := .pointer (some ⟨bC, oC + j, none⟩)) rfl (by kernel_rfl) (by kernel_rfl) (by kernel_rfl) (fun _ _ _ h => h) (Or.inl ⟨by rfl, by intro wx hx; go_simp⟩) (by assumption) ?_
                try simp only [List.getElem_toArray, List.getElem_cons_succ, List.getElem_cons_zero, Act.put, List.setIfInBounds_toArray, List.set_cons_zero, List.set_cons_succ]
                refine wpAnyH_take (i := 8) (v := .slice d5 c.length m5) rfl (by kernel_rfl) (by kernel_rfl) (by kernel_rfl) (fun _ _ _ h => h) (Or.inl ⟨by rfl, by intro wx hx; obtain ⟨_, _, _, _⟩ := hx; go_simp⟩) (by assumption) ?_
                try simp only [List.getElem_toArray, List.getElem_cons_succ, List.getElem_cons_zero, Act.put, List.setIfInBounds_toArray, List.set_cons_zero, List.set_cons_succ]
                refine wpAnyH_take (i := 9) (v := .slice (some ⟨bP, oP, none⟩) P.length cP) rfl (by kernel_rfl) (by kernel_rfl) (by kernel_rfl) (fun _ _ _ h => h) (Or.inl ⟨by rfl, by intro wx hx; go_simp⟩) (by assumption) ?_
                try simp only [List.getElem_toArray, List.getElem_cons_succ, List.getElem_cons_zero, Act.put, List.setIfInBounds_toArray, List.set_cons_zero, List.set_cons_succ]
                refine wpAnyH_take (i := 10) (v := .int .i64 i) rfl (by kernel_rfl) (by kernel_rfl) (by kernel_rfl) (fun _ _ _ h => h) (Or.inl ⟨by rfl, by intro wx hx; go_simp⟩) (by assumption) ?_
                try simp only [List.getElem_toArray, List.getElem_cons_succ, List.getElem_cons_zero, Act.put, List.setIfInBounds_toArray, List.set_cons_zero, List.set_cons_succ]
                refine wpAnyH_take (i := 11) (v := .pointer (some ⟨bP, oP + i, none⟩)) rfl (by kernel_rfl) (by kernel_rfl) (by kernel_rfl) (fun _ _ _ h => h) (Or.inl ⟨by rfl, by intro wx hx; go_simp⟩) (by assumption) ?_
                try simp only [List.getElem_toArray, List.getElem_cons_succ, List.getElem_cons_zero, Act.put, List.setIfInBounds_toArray, List.set_cons_zero, List.set_cons_succ]
                refine wpAnyH_take (i := 12) (v := .slice d6 x.length m6) rfl (by kernel_rfl) (by kernel_rfl) (by kernel_rfl) (fun _ _ _ h => h) (Or.inl ⟨by rfl, by intro wx hx; obtain ⟨_, _, _, _⟩ := hx; go_simp⟩) (by assumption) ?_
                try simp only [List.getElem_toArray, List.getElem_cons_succ, List.getElem_cons_zero, Act.put, List.setIfInBounds_toArray, List.set_cons_zero, List.set_cons_succ]
                refine wpAnyH_ready (rs := [13]) (by kernel_rfl) (by simp) ?_
                refine AllReadyH.cons rfl (fun K hK => ?_) AllReadyH.nil
                go_simp
                go_at_call 60
                refine (l6Move_any (w0 := wd) (w := wd) (hm'.ext (e := Ext.trans e0q ed)) hMm.out (hi5.ext (e := Ext.trans e0q ed)) (hi6.ext (e := ed)) hcpt.out hxpt.out hcx.out (by omega)).mono ?_
                rw [hmvd.out]
                rintro e w6 ⟨rfl, e6⟩
                have e6q : Ext wq w6 := Ext.trans ed e6
                have hS6 := hSx.out w6 e6q
                go_wp2_with fail
                refine hK.out _ _ hS6 (fun _ => ?_)
                clear hK K
                try simp only [List.getElem_toArray, List.getElem_cons_succ, List.getElem_cons_zero, Act.put, List.setIfInBounds_toArray, List.set_cons_zero, List.set_cons_succ]
                refine wpAnyH_take (i := 14) (v := .int .i64 (y + mv)) rfl (by kernel_rfl) (by kernel_rfl) (by kernel_rfl) (fun _ _ _ h => h) (Or.inl ⟨by rfl, by intro wx hx; go_simp⟩) (by assumption) ?_
                try simp only [List.getElem_toArray, List.getElem_cons_succ, List.getElem_cons_zero, Act.put, List.setIfInBounds_toArray, List.set_cons_zero, List.set_cons_succ]
                refine wpAnyH_take (i := 15) (v := .int .i64 (y + mv)) rfl (by kernel_rfl) (by kernel_rfl) (by kernel_rfl) (fun _ _ _ h => h) (Or.inl ⟨by rfl, by intro wx hx; go_simp⟩) (by assumption) ?_
                try simp only [List.getElem_toArray, List.getElem_cons_succ, List.getElem_cons_zero, Act.put, List.setIfInBounds_toArray, List.set_cons_zero, List.set_cons_succ]
                refine wpAnyH_done (by kernel_rfl) ?_ _
                go_wp2_with fail
                go_roundw
                case rel => exact ⟨j + 1, by omega, by go_num, by rw [hyy.out], e6q⟩
                case measure => simp [intOf]; omega
          · have hjC : j = C.length := by omega
            have hFi := hid (show fsAt M C V x j = nth F i by rw [hjC]; exact hxF.out.symm)
            rw [hFi.out]
            replace hjC := hid hjC
            have hiF : i < F.length := by rw [hvl.out]; exact hlt
            have hFb := hvi.out _ (nth_mem hiF)
            have hmem := hid (nth_mem hiF)
            have hts := hid (show F.take (i + 1) = F.take i ++ [nth F i] from take_succ_nth hiF)
            obtain ⟨y, hyd⟩ : ∃ y, y = nth F i := ⟨_, rfl⟩
            rw [← hyd] at hFb hmem hts ⊢
            replace hyd := hid hyd
            by_cases hbig : 99999 < y
            · have hno := hid (show fsB M C V = false by
                rw [hBd.out]
                cases hq : F.all fun y => decide (y ≤ 99999) with
                | false => rfl
                | true =>
                  have := List.all_eq_true.1 hq y hmem.out
                  simp at this
                  omega)
              have hrz := hid (show fsR M C V = [] by rw [hFr.out, hno.out]; rfl)
              have ownz : Own (wj.alloc (.cells #[] 3)) B [intRowOf 3 (.slice (some ⟨wj.heap.size, 0, none⟩) ([] : List Int).length 0) []] := Own.litInts (Nat.le_trans hBq eqj.size) rfl rfl (by simp) rfl
              have bj : Below B W (wj.alloc (.cells #[] 3)) := (hb.trans (eqj.below.mono hBq)).alloc (Nat.le_trans hBq eqj.size) _
              go_wp2_with fail
              go_ret2
              rw [hno.out, hrz.out]
              exact ⟨_, rfl, ownz.mono hBb.out, Ext.trans eW (hEx.out _ bj)⟩
            · have ownj := own.ext (w' := wj)
              have hBj : B ≤ wj.heap.size := Nat.le_trans hBq eqj.size
              have bj : Below B W wj := hb.trans (eqj.below.mono hBq)
              have hTk : (F.take i).length ≤ 1000 := by rw [List.length_take]; omega
              have hn1000 : nO ≤ 1000 := by rw [hnO.out]; exact hTk
              have own' : Own wj B (⟨3, 1, .slice dO nO mO, nO, (F.take i).map (Value.int .i64)⟩ :: Z) := by
                have h := ownj
                unfold intRowOf at h
                rw [← hnO.out] at h
                exact h
              clear own ownj hb
              go_wp2_with (at_builtin; refine wpList_append1 rfl _ _ _ rfl elemInt rfl own' hBj rfl rfl (by omega) (by omega) ?_; intro v7 w7 ho hb7)
              have own7 := own_grow1 ho hnO.out
              go_roundw
              case rel => exact ⟨i + 1, by omega, by go_num, by rw [hts.out]; exact own7, hid (fun z hz => by
                by_cases e : z = i
                · rw [e, ← hyd.out]; omega
                · exact hsm.out z (by omega)), bj.trans hb7⟩
              case measure => simp [intOf]; omega
      · have hiP : i = P.length := by omega
        have hyes := hid (show fsB M C V = true by
          rw [hBd.out]
          refine List.all_eq_true.2 fun y hy => ?_
          obtain ⟨q, hq, rfl⟩ := mem_iff_nth.1 hy
          rw [hvl.out] at hq
          exact decide_eq_true (hsm.out q (by omega)))
        have hrz := hid (show fsR M C V = F by rw [hFr.out, hyes.out]; rfl)
        have hfull : F.take i = F := by rw [hiP, ← hvl.out, List.take_length]
        rw [hfull] at own hnO
        replace hnO := hid hnO.out
        have own' : Own wq B [intRowOf 3 (.slice dO nO mO) F] := own.sub ((List.nil_sublist _).cons_cons _)
        replace hiP := hid hiP
        replace hfull := hid hfull
        go_wp2_with fail
        go_ret2
        rw [hyes.out, hrz.out]
        exact ⟨_, rfl, own'.mono hBb.out, Ext.trans eW eq⟩
end Go.Proofs.Ytkibmjenjgijmaa
