/- Several texts in one: Ch7 RnS RnI. -/
import Derived.Test.YtllfchcocgdcjaaGreatGrH
import Derived.Test.YtllfchcocgdcjaaGreatGrF
import Derived.Test.YtllfchcocgdcjaaGreatGrI
import Derived.Test.YtllfchcocgdcjaaGreatSvI
namespace Go.Proofs.YtllfchcocgdcjaaGreat
open Go.RowKit
end Go.Proofs.YtllfchcocgdcjaaGreat
namespace Go.Proofs.YtllfchcocgdcjaaGreat
open Go.RowKit
end Go.Proofs.YtllfchcocgdcjaaGreat
namespace Go.Proofs.YtllfchcocgdcjaaGreat
open Go.RowKit
set_option maxHeartbeats 1600000 in
set_option maxRecDepth 100000 in
theorem lists_any {v va vX : Value} {M : List (List Int)} {a X : List Int} {w0 w : World} [Ext w0 w] (hW : IsWorks w0 v M (confs M.length a.length 0)) (hM : metB M = true) (ha : IsInts w0 va a) (hXi : IsInts w0 vX X) (h1k : 1 ≤ a.length) (hk : a.length ≤ 3) (hac : a ∈ confs M.length a.length 0) (hl : X.length ≤ 1000) (hX : ∀ j, j < X.length → 0 ≤ nth X j ∧ nth X j < (M.length : Int)) :
    Calls Tryz.prog 59 #[v, va, vX] w fun e w' => ∃ u, e = .returned u ∧ Tab w' w.heap.size u (wlL M (confs M.length a.length 0) a X X.length) [] ∧ Ext w w' := by
  have hW' := hW
  obtain ⟨bx, mv, pv, cv, rfl, h0, h1, h2, hR, hP, hCs⟩ := hW
  have ha' := ha
  obtain ⟨da, ma, rfl, la⟩ := ha.form
  have hX' := hXi
  obtain ⟨aX, mX, rfl, lX⟩ := hXi.form
  have hMl := met_len hM
  have hdst := hid (dst_of_met hM)
  have hwl := hid (wl_good hdst.out h1k hk hac hX hl)
  have h216 := confs_216 hMl.2 hk
  have hcp := confs_pos (k := a.length) hMl.1
  have hmv := hid (confs_mv hdst.out hk)
  have hasc := hid (confs_asc M.length a.length 0)
  obtain ⟨htl, htr⟩ := atR_lt hac
  have hac' := hid hac
  clear hac h0 h1 hR hP
  replace hM := hid hM
  replace hX := hid hX
  obtain ⟨P, hPd⟩ : ∃ p, p = confs M.length a.length 0 := ⟨_, rfl⟩
  rw [← hPd] at htl htr hac' hasc hmv hcp h216 hwl hW' hCs ⊢
  replace hPd := hid hPd
  obtain ⟨t, ht⟩ : ∃ t, t = atR P a := ⟨_, rfl⟩
  rw [← ht] at htl htr
  have hat := hid ht.symm
  replace ht := hid ht
  have hcl : (cosL M P).length = P.length := by simp [cosL]
  have hrow := hid (show row (cosL M P) t = wst M P a by
    rw [wst, ← htr]
    simp [row, cosL, htl])
  obtain ⟨aC, mC, rfl, lC⟩ := hCs.form
  obtain ⟨bC, oC, dr, mr, hdC, hcr, hrI, _⟩ := hCs.at (w' := w0) (k := t) (by rw [hcl]; exact htl)
  cases hdC
  rw [hcl] at h2
  clear hCs hcl lC
  rw [hrow.out] at hcr hrI
  have hw0 := hid (show wlL M P a X 0 = [wst M P a] from rfl)
  obtain ⟨S0, hS0⟩ : ∃ x, x = wst M P a := ⟨_, rfl⟩
  rw [← hS0] at hcr hrI hw0
  replace hS0 := hid hS0
  obtain ⟨B, hB⟩ : ∃ b, b = w.heap.size := ⟨_, rfl⟩
  have hEx := hid (show ∀ u, Below B w u → Ext w u from fun u h => ⟨by rw [← hB]; exact h⟩)
  have hBl := hid (show ∀ u, Ext w u → B ≤ u.heap.size from fun u e => by rw [hB]; exact e.size)
  have hXb := hid (show ∀ u, Ext w u → Below B w u from fun u e => by rw [hB]; exact e.below)
  rw [← hB]
  replace hB := hid hB
  go_enter Tryz.func59, Tryz.ntmps59
  go_wp2_with fail
  have hSx := hid (show ∀ u, Ext w u → u.cell? ⟨bx, 2, none⟩ = some (.slice (some ⟨bC, oC, none⟩) P.length mC) ∧ u.cell? ⟨bC, oC + t, none⟩ = some (.slice dr S0.length mr) from fun u e => ⟨(Ext.trans ‹Ext w0 w› e).cell h2, (Ext.trans ‹Ext w0 w› e).cell hcr⟩)
  refine region_held_from (w0 := w) (S := fun u => u.cell? ⟨bx, 2, none⟩ = some (.slice (some ⟨bC, oC, none⟩) P.length mC) ∧ u.cell? ⟨bC, oC + t, none⟩ = some (.slice dr S0.length mr)) (by kernel_rfl) hSx.out (fun wd ed hHeld0 => ?_)
  have e0d : Ext w0 wd := Ext.trans ‹Ext w0 w› ed
  refine wpAnyH_take (i := 0) (v := .pointer (some ⟨bx, 0, none⟩)) rfl (by kernel_rfl) (by kernel_rfl) (by kernel_rfl) (fun _ _ _ h => h) (Or.inl ⟨by rfl, by intro wx hx; go_simp⟩) (by assumption) ?_
  try simp only [List.getElem_toArray, List.getElem_cons_zero, Act.put, List.setIfInBounds_toArray, List.set_cons_zero, List.set_cons_succ]
  refine wpAnyH_take (i := 1) (v := .pointer (some ⟨bx, 0, none⟩)) rfl (by kernel_rfl) (by kernel_rfl) (by kernel_rfl) (fun _ _ _ h => h) (Or.inl ⟨by rfl, by intro wx hx; go_simp⟩) (by assumption) ?_
  try simp only [List.getElem_toArray, List.getElem_cons_succ, List.getElem_cons_zero, Act.put, List.setIfInBounds_toArray, List.set_cons_zero, List.set_cons_succ]
  refine wpAnyH_take (i := 2) (v := .pointer (some ⟨bx, 2, none⟩)) rfl (by kernel_rfl) (by kernel_rfl) (by kernel_rfl) (fun _ _ _ h => h) (Or.inl ⟨by rfl, by intro wx hx; go_simp⟩) (by assumption) ?_
  try simp only [List.getElem_toArray, List.getElem_cons_succ, List.getElem_cons_zero, Act.put, List.setIfInBounds_toArray, List.set_cons_zero, List.set_cons_succ]
  refine wpAnyH_take (i := 3) (v := .slice (some ⟨bC, oC, none⟩) P.length mC) rfl (by kernel_rfl) (by kernel_rfl) (by kernel_rfl) (fun _ _ _ h => h) (Or.inl ⟨by rfl, by intro wx hx; obtain ⟨_, _⟩ := hx; go_simp⟩) (by assumption) ?_
  try simp only [List.getElem_toArray, List.getElem_cons_succ, List.getElem_cons_zero, Act.put, List.setIfInBounds_toArray, List.set_cons_zero, List.set_cons_succ]
  refine wpAnyH_take (i := 4) (v := .pointer (some ⟨bx, 0, none⟩)) rfl (by kernel_rfl) (by kernel_rfl) (by kernel_rfl) (fun _ _ _ h => h) (Or.inl ⟨by rfl, by intro wx hx; go_simp⟩) (by assumption) ?_
  try simp only [List.getElem_toArray, List.getElem_cons_succ, List.getElem_cons_zero, Act.put, List.setIfInBounds_toArray, List.set_cons_zero, List.set_cons_succ]
  refine wpAnyH_take (i := 5) (v := .slice da a.length ma) rfl (by kernel_rfl) (by kernel_rfl) (by kernel_rfl) (fun _ _ _ h => h) (Or.inl ⟨by rfl, by intro wx hx; go_simp⟩) (by assumption) ?_
  try simp only [List.getElem_toArray, List.getElem_cons_succ, List.getElem_cons_zero, Act.put, List.setIfInBounds_toArray, List.set_cons_zero, List.set_cons_succ]
  refine wpAnyH_ready (rs := [6]) (by kernel_rfl) (by simp) ?_
  refine AllReadyH.cons rfl (fun K hK => ?_) AllReadyH.nil
  go_simp
  go_at_call 85
  refine (index_any (w0 := w0) hW' ha' hasc.out hac'.out (by omega)).mono ?_
  rw [hat.out]
  rintro e w5 ⟨rfl, rfl⟩
  go_wp2_with fail
  refine hK.out _ _ hHeld0 (fun _ => ?_)
  clear hK K
  try simp only [List.getElem_toArray, List.getElem_cons_succ, List.getElem_cons_zero, Act.put, List.setIfInBounds_toArray, List.set_cons_zero, List.set_cons_succ]
  refine wpAnyH_take (i := 7) (v := .pointer (some ⟨bC, oC + t, none⟩)) rfl (by kernel_rfl) (by kernel_rfl) (by kernel_rfl) (fun _ _ _ h => h) (Or.inl ⟨by rfl, by intro wx hx; go_simp⟩) (by assumption) ?_
  try simp only [List.getElem_toArray, List.getElem_cons_succ, List.getElem_cons_zero, Act.put, List.setIfInBounds_toArray, List.set_cons_zero, List.set_cons_succ]
  refine wpAnyH_take (i := 8) (v := .slice dr S0.length mr) rfl (by kernel_rfl) (by kernel_rfl) (by kernel_rfl) (fun _ _ _ h => h) (Or.inl ⟨by rfl, by intro wx hx; obtain ⟨_, _⟩ := hx; go_simp⟩) (by assumption) ?_
  try simp only [List.getElem_toArray, List.getElem_cons_succ, List.getElem_cons_zero, Act.put, List.setIfInBounds_toArray, List.set_cons_zero, List.set_cons_succ]
  refine wpAnyH_ready (rs := [9]) (by kernel_rfl) (by simp) ?_
  refine AllReadyH.cons rfl (fun K hK => ?_) AllReadyH.nil
  go_simp
  go_at_call 73
  refine (cloneInts_any (w0 := w0) hrI).mono ?_
  rintro e w6 ⟨d6, m6, rfl, own6, e6⟩
  have e6w : Ext w w6 := Ext.trans ed e6
  have hS6 := hSx.out w6 e6w
  have hB6 : B ≤ w6.heap.size := hBl.out _ e6w
  replace own6 := own6.mono (hBl.out _ ed)
  go_wp2_with fail
  refine hK.out _ _ hS6 (fun _ => ?_)
  clear hK K
  try simp only [List.getElem_toArray, List.getElem_cons_succ, List.getElem_cons_zero, Act.put, List.setIfInBounds_toArray, List.set_cons_zero, List.set_cons_succ]
  refine wpAnyH_ready (rs := [10]) (by kernel_rfl) (by simp) ?_
  refine AllReadyH.cons rfl (fun K hK => ?_) AllReadyH.nil
  go_simp
  have oL := own6.lit 27 1 1 #[.slice d6 S0.length m6] hB6 (by unfold maxLen; omega) rfl
  have e7w : Ext w (w6.alloc (.cells #[.slice d6 S0.length m6] 27)) := Ext.trans e6w inferInstance
  have hS7 := hSx.out _ e7w
  refine hK.out _ _ hS7 (fun _ => ?_)
  clear hK K
  try simp only [List.getElem_toArray, List.getElem_cons_succ, List.getElem_cons_zero, Act.put, List.setIfInBounds_toArray, List.set_cons_zero, List.set_cons_succ]
  generalize w6.alloc (.cells #[.slice d6 S0.length m6] 27) = w7 at *
  generalize w6.heap.size = gl at *
  refine wpAnyH_take (i := 11) (v := .slice (some ⟨gl, 0, none⟩) 1 1) rfl (by kernel_rfl) (by kernel_rfl) (by kernel_rfl) (fun _ _ _ h => h) (Or.inl ⟨by rfl, by intro wx hx; go_simp⟩) (by assumption) ?_
  try simp only [List.getElem_toArray, List.getElem_cons_succ, List.getElem_cons_zero, Act.put, List.setIfInBounds_toArray, List.set_cons_zero, List.set_cons_succ]
  refine wpAnyH_done (by kernel_rfl) ?_ _
  have tab0 : Tab w7 B (.slice (some ⟨gl, 0, none⟩) 1 1) (wlL M P a X 0) [] := ⟨[.slice d6 S0.length m6], rfl, by rw [hw0.out]; exact oL⟩
  have b7 : Below B w w7 := hXb.out _ e7w
  clear h2 hcr hrI hSx
  go_wp2_with fail
  go_loopw [7, 23] (fun ov i wr => ∃ q : Nat, q ≤ X.length ∧ i = .int .i64 q ∧ Tab wr B ov (wlL M P a X q) [] ∧ Below B w wr) (fun _ i _ => X.length - (intOf i).toNat)
  case atStart => exact ⟨0, by omega, rfl, tab0, b7⟩
  case round =>
    clear tab0 b7
    obtain ⟨q, hq, rfl, tab, hb⟩ := hrel
    obtain ⟨wq, rfl⟩ : ∃ y : World, y = wr := ⟨_, rfl⟩
    have eq : Ext w wq := hEx.out _ hb
    have e0q : Ext w0 wq := Ext.trans ‹Ext w0 w› eq
    have hBq := hBl.out _ eq
    by_cases hlt : q < X.length
    · obtain ⟨dO, nO, mO, rfl, hnO⟩ := tab.formN
      have hgW := hid (show GoodW M (confs M.length a.length 0) (wlAt M P a X q) 300000 by
        have h := (hwl.out q hq).mono (L' := 300000) (by omega)
        rw [hPd.out] at h ⊢; exact h)
      have hgN := hid (show GoodW M (confs M.length a.length 0) (wlAt M P a X (q + 1)) 300000 by
        have h := (hwl.out (q + 1) hlt).mono (L' := 300000) (by omega)
        rw [hPd.out] at h ⊢; exact h)
      have hT : IsRows wq (.slice dO nO mO) (wlL M P a X q) := tab.reads (by unfold ShortRows; rw [wlL_len]; omega) (fun r hr => by
        obtain ⟨j, hj, rfl⟩ := List.mem_map.1 hr
        have := List.mem_range.1 hj
        have h := (hwl.out j (by omega)).1.1
        unfold Short; omega) (fun r hr => by
        obtain ⟨j, hj, rfl⟩ := List.mem_map.1 hr
        have := List.mem_range.1 hj
        exact good_i64 (hwl.out j (by omega)) (by omega))
      obtain ⟨bO, oO, dW, mW, hdO, hcW, hWI, _⟩ := hT.at (w' := wq) (k := q) (by rw [wlL_len]; omega)
      cases hdO
      have hrq := hid (show row (wlL M P a X q) q = wlAt M P a X q from wlL_row (Nat.le_refl _))
      rw [hrq.out] at hcW hWI
      have hqn : q < nO := by rw [hnO.out, wlL_len]; omega
      obtain ⟨bX, oX, hdX, hcX⟩ := hX'.at (w' := wq) hlt
      cases hdX
      have hTl : (wlL M P a X q).length ≤ 1000000 := by rw [wlL_len]; omega
      have hTs := hid (show wlL M P a X (q + 1) = wlL M P a X q ++ [wlAt M P a X (q + 1)] from wlL_succ)
      have hnw := hid (show wnxL M P (wlAt M P a X q) (nth X q) = wlAt M P a X (q + 1) from rfl)
      have hlw := hid (show (wlAt M P a X q).length = P.length from (hwl.out q hq).1.1)
      have hwb := hid (show ∀ j, j < P.length → 0 ≤ nth (wlAt M P a X q) j ∧ nth (wlAt M P a X q) j ≤ 1000000 from fun j hj => by have := (hwl.out q hq).2 j hj; omega)
      obtain ⟨W, hWd⟩ : ∃ y, y = wlAt M P a X q := ⟨_, rfl⟩
      rw [← hWd] at hcW hWI hnw hlw hwb
      obtain ⟨NW, hNW⟩ : ∃ y, y = wlAt M P a X (q + 1) := ⟨_, rfl⟩
      rw [← hNW] at hnw hTs
      obtain ⟨T, hTd⟩ : ∃ y, y = wlL M P a X q := ⟨_, rfl⟩
      rw [← hTd] at hTs hTl tab
      clear hT
      replace hWd := hid hWd
      replace hNW := hid hNW
      replace hTd := hid hTd
      go_wp2_with fail
      with_reducible refine (wnx_any (w0 := wq) (w := wq) (hW'.ext (w' := wq)) hWI hcp (by omega) hlw.out hwb.out hmv.out).mono ?_
      rw [hnw.out]
      rintro e w5 ⟨d5, m5, rfl, own5, e5⟩
      have tabX := tab.join own5 e5 hBq
      have hB5 : B ≤ w5.heap.size := Nat.le_trans hBq e5.size
      clear tab own5
      go_wp2_with (at_builtin; refine wpList_push rfl (.tmp 28) (.tmp 36) rfl rfl tabX hB5 rfl hTl ?_; intro v9 w9 tab9 b9)
      go_roundw
      case rel => exact ⟨q + 1, by omega, by go_num, by rw [hTs.out]; exact tab9, (hb.trans (e5.below.mono hBq)).trans b9⟩
      case measure => simp [intOf]; omega
    · have hqn : q = X.length := by omega
      rw [hqn] at tab
      replace hqn := hid hqn
      go_wp2_with fail
      go_ret
      exact ⟨_, rfl, tab, eq⟩
theorem srv_parts {M : List (List Int)} {a X : List Int} (h : srvB M a X = true) : metB M = true ∧ (1 ≤ a.length ∧ a.length ≤ 3) ∧ a ∈ confs M.length a.length 0 ∧ X.length ≤ 60 ∧ ∀ j, j < X.length → 0 ≤ nth X j ∧ nth X j < (M.length : Int) := by
  obtain ⟨h1, h2, h3, h4⟩ := srvB_iff.1 h
  exact ⟨h1, (cfgB_iff.1 h2).1, cfg_conf h2 rfl, h3, fun j hj => belowB_at h4 hj⟩
end Go.Proofs.YtllfchcocgdcjaaGreat
