/- The least schedule, the program's. -/
import Derived.Test.YtmgcfnciejfpbaaGreatGrI
import Derived.Test.YtmgcfnciejfpbaaGreatTab
import Derived.Test.YtmgcfnciejfpbaaGreatGrN
import Derived.Test.YtmgcfnciejfpbaaGreatGs
namespace Go.Proofs.YtmgcfnciejfpbaaGreat
open Go.RowKit

def lsR (M : List (List Int)) (a X : List Int) : List (List Int) := if srvB M a X then lsT M (confs M.length a.length 0) a X X.length else []
theorem lsR_yes {M : List (List Int)} {a X : List Int} (h : srvB M a X = true) : lsR M a X = lsT M (confs M.length a.length 0) a X X.length := by rw [lsR, if_pos h]
theorem lsR_no {M : List (List Int)} {a X : List Int} (h : srvB M a X = false) : lsR M a X = [] := by simp [lsR, h]
theorem lsT_ok {M : List (List Int)} {a X : List Int} (h : srvB M a X = true) : ShortRows (lsT M (confs M.length a.length 0) a X X.length).length ∧ (∀ r ∈ lsT M (confs M.length a.length 0) a X X.length, Short r.length) ∧ ∀ r ∈ lsT M (confs M.length a.length 0) a X X.length, ∀ x ∈ r, I64 x := by
  obtain ⟨hd, hk, ha, hX, hl⟩ := srv_all h
  have hn := (met_len (srvB_iff.1 h).1).2
  refine ⟨by unfold ShortRows; rw [lsT_len]; omega, fun r hr => ?_, fun r hr => ?_⟩
  · obtain ⟨j, hj, rfl⟩ := List.mem_map.1 hr
    have := List.mem_range.1 hj
    have := (conf_pts (ls_conf h (j + 1) (by omega))).1
    unfold Short
    omega
  · obtain ⟨j, hj, rfl⟩ := List.mem_map.1 hr
    have := List.mem_range.1 hj
    have h2 := (conf_pts (ls_conf h (j + 1) (by omega))).2
    exact fun x hx => by have := h2 x hx; unfold I64; omega
/-- the table with its last t rows made -/
def rsTab (M P : List (List Int)) (X : List Int) (t : Nat) : List (List Int) := (List.range (X.length + 1)).map fun j => if X.length + 1 ≤ j + t then rsD M P X (X.length - j) else []
theorem rsTab_len (M P : List (List Int)) (X : List Int) (t : Nat) : (rsTab M P X t).length = X.length + 1 := by simp [rsTab]
theorem rsTab_row {M P : List (List Int)} {X : List Int} {t j : Nat} (h : j ≤ X.length) (h2 : X.length + 1 ≤ j + t) : row (rsTab M P X t) j = rsD M P X (X.length - j) := by
  simp [rsTab, row, show j < X.length + 1 by omega, h2]
theorem rsTab_one (M P : List (List Int)) (X : List Int) : (List.replicate (X.length + 1) []).set X.length (rsD M P X 0) = rsTab M P X 1 := by
  refine List.ext_getElem (by simp [rsTab]) fun j h1 h2 => ?_
  have hj : j < X.length + 1 := by simpa using h1
  rw [List.getElem_set]
  by_cases e : X.length = j
  · subst e
    simp [rsTab]
  · rw [if_neg e]
    simp [rsTab]
    omega
theorem rsTab_next {M P : List (List Int)} {X : List Int} {t j : Nat} (h : j + t = X.length) : (rsTab M P X t).set j (rsD M P X (X.length - j)) = rsTab M P X (t + 1) := by
  refine List.ext_getElem (by simp [rsTab]) fun i h1 h2 => ?_
  have hi : i < X.length + 1 := by simpa [rsTab] using h1
  rw [List.getElem_set]
  by_cases e : j = i
  · subst e
    simp [rsTab, show X.length + 1 ≤ j + (t + 1) by omega]
  · rw [if_neg e]
    simp only [rsTab, List.getElem_map, List.getElem_range]
    by_cases e2 : X.length + 1 ≤ i + t
    · rw [if_pos e2, if_pos (by omega)]
    · rw [if_neg e2, if_neg (by omega)]
theorem rsD_step {M P : List (List Int)} {X : List Int} {j : Nat} (h : j < X.length) : rsD M P X (X.length - j) = wnxL M P (rsD M P X (X.length - (j + 1))) (nth X j) := by
  rw [show X.length - j = (X.length - (j + 1)) + 1 by omega, rsD, show X.length - 1 - (X.length - (j + 1)) = j by omega]
theorem rs_zeros (M P : List (List Int)) (X : List Int) : List.replicate P.length 0 = rsD M P X 0 := by
  rw [rsD]
  exact List.map_const'.symm
theorem rs_i64 {M : List (List Int)} {a X : List Int} (h : srvB M a X = true) {d : Nat} (hd : d ≤ X.length) : ∀ x ∈ rsD M (confs M.length a.length 0) X d, I64 x := by
  obtain ⟨_, _, _, _, hl⟩ := srv_all h
  intro x hx
  have hg := rs_good h d hd
  obtain ⟨j, hj, rfl⟩ := mem_iff_nth.1 hx
  rw [hg.1.1] at hj
  have := hg.2 j hj
  unfold I64
  omega

set_option maxHeartbeats 3200000 in
set_option maxRecDepth 100000 in
theorem implLs_any {v va vX : Value} {M : List (List Int)} {a X : List Int} {w0 w : World} [Ext w0 w] (hm : IsMet w0 v M) (ha : IsInts w0 va a) (hXi : IsInts w0 vX X) :
    Calls Tryz.prog 45 #[v, va, vX] w fun e w' => ∃ u, e = .returned (.tuple #[u, .bool (srvB M a X)]) ∧ IsRows w' u (lsR M a X) ∧ Ext w w' := by
  have hm' := hm
  have ha' := ha
  have hX' := hXi
  obtain ⟨v1, rfl, hR⟩ := hm
  obtain ⟨a1, c1, rfl, l1⟩ := hR.form
  obtain ⟨da, ma, rfl, la⟩ := ha.form
  obtain ⟨aX, mX, rfl, lX⟩ := hXi.form
  have x0 : (w.alloc (.cells #[.slice a1 M.length c1] 26)).cell? ⟨w.heap.size, 0, none⟩ = some (.slice a1 M.length c1) := by go_simp
  cases hS : srvB M a X with
  | false =>
    have hr := hid (lsR_no hS)
    replace hS := hid hS
    go_enter Tryz.func45, Tryz.ntmps45
    go_wp2_with fail
    with_reducible refine (isServed_any (w0 := w0) hm' ha' hX').mono ?_
    rw [hS.out]
    rintro e w1 ⟨rfl, e1⟩
    go_wp2_with fail
    go_ret2
    rw [hr.out]
    exact ⟨_, rfl, rows_none _ _ _, Ext.trans inferInstance e1⟩
  | true =>
    have hr := hid (lsR_yes hS)
    have hTok := hid (lsT_ok hS)
    have hrg := hid (fun d (hd : d ≤ X.length) => rs_good hS d hd)
    have hri := hid (fun d (hd : d ≤ X.length) => @rs_i64 M a X hS d hd)
    have hlc := hid (ls_conf hS)
    have hls := hid (fun x (hx : x ∈ confs M.length a.length 0) i (hi : i < X.length) => ls_step hS hx hi)
    obtain ⟨hM, hk, hac, hl60, hX⟩ := srv_parts hS
    have hMl := met_len hM
    have h216 := confs_216 hMl.2 hk.2
    have hcp := confs_pos (k := a.length) hMl.1
    have hmv := hid (confs_mv (dst_of_met hM) hk.2)
    have hasc := hid (confs_asc M.length a.length 0)
    have hro := hid (fun j (hj : j < (confs M.length a.length 0).length) => atR_row hj)
    have hM' := hid hM
    have hac' := hid hac
    have hX2 := hid hX
    clear hM hac hX
    replace hS := hid hS
    go_enter Tryz.func45, Tryz.ntmps45
    go_wp2_with fail
    with_reducible refine (isServed_any (w0 := w0) hm' ha' hX').mono ?_
    rw [hS.out]
    rintro e w1 ⟨rfl, e1⟩
    have x1 := e1.cell x0
    have e1w : Ext w w1 := Ext.trans inferInstance e1
    have e01 : Ext w0 w1 := Ext.trans ‹Ext w0 w› e1w
    clear x0 e1
    go_wp2_with fail
    with_reducible refine (worksOf_any (w0 := w0) hm' hM'.out hk.1 hk.2).mono ?_
    rintro e w2 ⟨u, rfl, hW, e2⟩
    have e2w : Ext w w2 := Ext.trans e1w e2
    have e02 : Ext w0 w2 := Ext.trans ‹Ext w0 w› e2w
    have hW' := hW
    obtain ⟨bw, mv, pv, cv, rfl, _, h1, h2, _, hP, hCs⟩ := hW
    obtain ⟨aP, cP, rfl, lP⟩ := hP.form
    clear x1 e2 e1w e01
    have hcl : (cosL M (confs M.length a.length 0)).length = (confs M.length a.length 0).length := by simp [cosL]
    obtain ⟨aC, mC, rfl, lC⟩ := hCs.form
    rw [hcl] at h2 lC
    obtain ⟨P, hPd⟩ : ∃ p, p = confs M.length a.length 0 := ⟨_, rfl⟩
    rw [← hPd] at hrg hri hlc h216 hcp hmv hasc hro hW' h1 h2 hP hCs hr hTok hls lP lC hcl hac'
    replace hPd := hid hPd
    obtain ⟨B, hB⟩ : ∃ B, B = w2.heap.size := ⟨_, rfl⟩
    go_upto_region 5 with (at_make; refine wpList_makeOwn rfl _ _ _ rfl elemInts (X.length + 1) rfl rfl (by omega) (by omega) rfl ?_; intro hown)
    have eW1 : Ext w2 (w2.alloc (.cells (Array.replicate (X.length + 1) (.slice none 0 0)) 27)) := inferInstance
    generalize w2.alloc (.cells (Array.replicate (X.length + 1) (.slice none 0 0)) 27) = W3 at *
    rw [← hB] at hown ⊢
    have hB3 : B ≤ W3.heap.size := by rw [hB]; exact eW1.size
    replace hB := hid hB
    have h1W := eW1.cell h1
    have hcK : W3.cell? ⟨B, X.length, none⟩ = some (.slice none 0 0) := by
      rw [hown.cellAt (w' := W3) (j := X.length) (by omega)]
      simp
    have hfK : W3.frozen? ⟨B, X.length, none⟩ = false := hown.frozenAt X.length
    have hcK2 : (W3.alloc (.cells (Array.replicate P.length (.int .i64 0)) 3)).cell? ⟨B, X.length, none⟩ = some (.slice none 0 0) := Ext.cell (a := W3) inferInstance hcK
    have hfK2 : (W3.alloc (.cells (Array.replicate P.length (.int .i64 0)) 3)).frozen? ⟨B, X.length, none⟩ = false := (hown.ext (w' := W3.alloc (.cells (Array.replicate P.length (.int .i64 0)) 3))).frozenAt X.length
    go_upto_region 6 with (at_make; refine wpList_makeOwn rfl _ _ _ rfl elemInt P.length rfl rfl (by omega) (by omega) rfl ?_; intro hown4)
    have own5 : Own ((W3.alloc (.cells (Array.replicate P.length (.int .i64 0)) 3)).setCell ⟨B, X.length, none⟩ (.slice (some ⟨W3.heap.size, 0, none⟩) P.length P.length)) B (tbRows B (X.length + 1) ((List.replicate (X.length + 1) (.slice none 0 0)).set X.length (.slice (some ⟨W3.heap.size, 0, none⟩) P.length P.length)) (rsTab M P X 1)) := by
      have q4 : Own (W3.alloc (.cells (Array.replicate P.length (.int .i64 0)) 3)) W3.heap.size [intRowOf 3 (.slice (some ⟨W3.heap.size, 0, none⟩) P.length P.length) (List.replicate P.length 0)] := by
        unfold intRowOf
        rw [List.length_replicate, List.map_replicate]
        exact hown4
      have q5 := tb_start hown q4 (Ext.refl W3) inferInstance hB3 (l := X.length) (by omega) rfl
      rw [rs_zeros M P X, rsTab_one] at q5
      exact q5
    have eW5 : Below B W3 ((W3.alloc (.cells (Array.replicate P.length (.int .i64 0)) 3)).setCell ⟨B, X.length, none⟩ (.slice (some ⟨W3.heap.size, 0, none⟩) P.length P.length)) := ((Below.refl B W3).alloc hB3 _).setCell (Nat.le_refl _) _
    generalize (W3.alloc (.cells (Array.replicate P.length (.int .i64 0)) 3)).setCell ⟨B, X.length, none⟩ (.slice (some ⟨W3.heap.size, 0, none⟩) P.length P.length) = W at *
    have hvs0 : ((List.replicate (X.length + 1) (Value.slice none 0 0)).set X.length (.slice (some ⟨W3.heap.size, 0, none⟩) P.length P.length)).length = X.length + 1 := by simp
    generalize (List.replicate (X.length + 1) (Value.slice none 0 0)).set X.length (.slice (some ⟨W3.heap.size, 0, none⟩) P.length P.length) = vs0 at *
    have eW : Ext w2 W := by
      refine ⟨?_⟩
      have h1 := eW1.below
      rw [← hB.out] at h1 ⊢
      exact h1.trans eW5
    have hBW : B ≤ W.heap.size := by rw [hB.out]; exact eW.size
    have hE2 := hid (show ∀ u, Below B W u → Ext w2 u from fun u h => ⟨eW.below.trans (h.mono (by rw [hB.out]; exact Nat.le_refl _))⟩)
    have hBu := hid (show ∀ u, Below B W u → B ≤ u.heap.size from fun u h => Nat.le_trans hBW h.size)
    clear hown hown4 hcK hfK hcK2 hfK2 eW5 hB3 eW1 h1W
    replace hvs0 := hid hvs0
    go_wp2
    go_loopw [10] (fun i wr => ∃ t : Nat, 1 ≤ t ∧ t ≤ X.length + 1 ∧ i = .int .i64 ((X.length : Int) - t) ∧ Below B W wr ∧ ∃ vs, Hid (vs.length = X.length + 1) ∧ Own wr B (tbRows B (X.length + 1) vs (rsTab M P X t))) (fun i _ => (intOf i + 1).toNat)
    case atStart => exact ⟨1, by omega, by omega, rfl, Below.refl _ _, vs0, hvs0, own5⟩
    case round =>
      clear own5
      obtain ⟨t, ht1, ht, rfl, hb0, vs, hvs, hown⟩ := hrel
      obtain ⟨wo, rfl⟩ : ∃ y : World, y = wr := ⟨_, rfl⟩
      have e2o : Ext w2 wo := hE2.out _ hb0
      have e0o : Ext w0 wo := Ext.trans e02 e2o
      have hBo := hBu.out _ hb0
      by_cases hlt : t ≤ X.length
      · obtain ⟨j, hj⟩ : ∃ j : Nat, j + t = X.length := ⟨X.length - t, by omega⟩
        have hjX : j < X.length := by omega
        rw [show ((X.length : Int) - t) = (j : Int) by omega]
        obtain ⟨bX, oX, rfl, hcX⟩ := hX'.at (w' := w0) hjX
        have hfx := hid (show ∀ u, Below B W u → u.cell? ⟨bX, oX + j, none⟩ = some (.int .i64 (nth X j)) from fun u h => (Ext.trans e02 (hE2.out _ h)).cell hcX)
        have hrow := hid (rsTab_row (M := M) (P := P) (X := X) (t := t) (j := j + 1) (by omega) (by omega))
        have hg1 := hrg.out (X.length - (j + 1)) (by omega)
        have hg2 := hrg.out (X.length - j) (by omega)
        have hl1 := hid hg1.1.1
        have hb1 := hid (show ∀ q, q < P.length → 0 ≤ nth (rsD M P X (X.length - (j + 1))) q ∧ nth (rsD M P X (X.length - (j + 1))) q ≤ 1000000 from fun q hq => by have := hg1.2 q hq; omega)
        have hi1 := hid (hri.out (X.length - (j + 1)) (by omega))
        have hnw := hid (show wnxL M P (rsD M P X (X.length - (j + 1))) (nth X j) = rsD M P X (X.length - j) from (rsD_step hjX).symm)
        have hl2 := hid hg2.1.1
        have hnext := hid (rsTab_next (M := M) (P := P) hj)
        have hTl := hid (rsTab_len M P X t)
        clear hg1 hg2
        obtain ⟨gk, mk, hu, hBg⟩ := tb_blk hown hvs.out hTl.out (j := j + 1) (by omega) (by rw [hrow.out, hl1.out]; omega)
        rw [hrow.out] at hu
        obtain ⟨u0, hu0⟩ : ∃ u, vs[j]? = some u := ⟨_, List.getElem?_eq_getElem (by rw [hvs.out]; omega)⟩
        have ownd := hown.ext (w' := wo.drew)
        have bd : Below B W wo.drew := hb0.drew
        have c1 := (tb_cell ownd hvs.out hu).1
        have hpk := tb_pick ownd hTl.out (j := j + 1) (by omega) hu
        rw [hrow.out] at hpk
        have hRi : IsInts wo.drew _ (rsD M P X (X.length - (j + 1))) := hpk.reads (by unfold Short; rw [hl1.out]; omega) hi1.out
        obtain ⟨R1, hR1⟩ : ∃ q, q = rsD M P X (X.length - (j + 1)) := ⟨_, rfl⟩
        rw [← hR1] at hu c1 hRi hl1 hb1 hnw
        obtain ⟨R0, hR0⟩ : ∃ q, q = rsD M P X (X.length - j) := ⟨_, rfl⟩
        rw [← hR0] at hnw hl2 hnext
        obtain ⟨r, hrd⟩ : ∃ q, q = nth X j := ⟨_, rfl⟩
        rw [← hrd] at hfx hnw
        obtain ⟨T, hTd⟩ : ∃ q, q = rsTab M P X t := ⟨_, rfl⟩
        rw [← hTd] at ownd hnext hTl
        replace hR1 := hid hR1
        replace hR0 := hid hR0
        replace hrd := hid hrd
        replace hTd := hid hTd
        replace hu := hid hu
        replace hu0 := hid hu0
        have hjr := hid hj
        clear hpk hcX hown hb0 e2o e0o
        go_upto_region 9 with fail
        refine wp_region_held_drew (S := fun u => u.cell? ⟨B, j + 1, none⟩ = some (.slice (some ⟨gk, 0, none⟩) R1.length mk) ∧ u.cell? ⟨bX, oX + j, none⟩ = some (.int .i64 r)) (by kernel_rfl) ⟨c1, hfx.out _ bd⟩ (fun hHeld0 => ?_)
        generalize wo.drew = wd at *
        refine wpAnyH_take (i := 0) (v := .slice (some ⟨B, 0, none⟩) (X.length + 1) (X.length + 1)) rfl (by kernel_rfl) (by kernel_rfl) (by kernel_rfl) (fun _ _ _ h => h) (Or.inl ⟨by rfl, by intro wx hx; go_simp⟩) (by assumption) ?_
        try simp only [List.getElem_toArray, List.getElem_cons_zero, Act.put, List.setIfInBounds_toArray, List.set_cons_zero, List.set_cons_succ]
        refine wpAnyH_take (i := 1) (v := .int .i64 j) rfl (by kernel_rfl) (by kernel_rfl) (by kernel_rfl) (fun _ _ _ h => h) (Or.inl ⟨by rfl, by intro wx hx; go_simp⟩) (by assumption) ?_
        try simp only [List.getElem_toArray, List.getElem_cons_succ, List.getElem_cons_zero, Act.put, List.setIfInBounds_toArray, List.set_cons_zero, List.set_cons_succ]
        refine wpAnyH_take (i := 2) (v := .pointer (some ⟨bw, 0, none⟩)) rfl (by kernel_rfl) (by kernel_rfl) (by kernel_rfl) (fun _ _ _ h => h) (Or.inl ⟨by rfl, by intro wx hx; go_simp⟩) (by assumption) ?_
        try simp only [List.getElem_toArray, List.getElem_cons_succ, List.getElem_cons_zero, Act.put, List.setIfInBounds_toArray, List.set_cons_zero, List.set_cons_succ]
        refine wpAnyH_take (i := 3) (v := .slice (some ⟨B, 0, none⟩) (X.length + 1) (X.length + 1)) rfl (by kernel_rfl) (by kernel_rfl) (by kernel_rfl) (fun _ _ _ h => h) (Or.inl ⟨by rfl, by intro wx hx; go_simp⟩) (by assumption) ?_
        try simp only [List.getElem_toArray, List.getElem_cons_succ, List.getElem_cons_zero, Act.put, List.setIfInBounds_toArray, List.set_cons_zero, List.set_cons_succ]
        refine wpAnyH_take (i := 4) (v := .int .i64 j) rfl (by kernel_rfl) (by kernel_rfl) (by kernel_rfl) (fun _ _ _ h => h) (Or.inl ⟨by rfl, by intro wx hx; go_simp⟩) (by assumption) ?_
        try simp only [List.getElem_toArray, List.getElem_cons_succ, List.getElem_cons_zero, Act.put, List.setIfInBounds_toArray, List.set_cons_zero, List.set_cons_succ]
        refine wpAnyH_take (i := 5) (v := .int .i64 ((j : Int) + 1)) rfl (by kernel_rfl) (by kernel_rfl) (by kernel_rfl) (fun _ _ _ h => h) (Or.inl ⟨by rfl, by intro wx hx; (go_simp; exact IntWalk.i64_in _ (by omega))⟩) (by assumption) ?_
        try simp only [List.getElem_toArray, List.getElem_cons_succ, List.getElem_cons_zero, Act.put, List.setIfInBounds_toArray, List.set_cons_zero, List.set_cons_succ]
        refine wpAnyH_take (i := 6) (v := .pointer (some ⟨B, j + 1, none⟩)) rfl (by kernel_rfl) (by kernel_rfl) (by kernel_rfl) (fun _ _ _ h => h) (Or.inl ⟨by rfl, by intro wx hx; (go_simp; intro hq; exfalso; omega)⟩) (by assumption) ?_
        try simp only [List.getElem_toArray, List.getElem_cons_succ, List.getElem_cons_zero, Act.put, List.setIfInBounds_toArray, List.set_cons_zero, List.set_cons_succ]
        refine wpAnyH_take (i := 7) (v := .slice (some ⟨gk, 0, none⟩) R1.length mk) rfl (by kernel_rfl) (by kernel_rfl) (by kernel_rfl) (fun _ _ _ h => h) (Or.inl ⟨by rfl, by intro wx hx; obtain ⟨_, _⟩ := hx; go_simp⟩) (by assumption) ?_
        try simp only [List.getElem_toArray, List.getElem_cons_succ, List.getElem_cons_zero, Act.put, List.setIfInBounds_toArray, List.set_cons_zero, List.set_cons_succ]
        refine wpAnyH_take (i := 8) (v := .slice (some ⟨bX, oX, none⟩) X.length mX) rfl (by kernel_rfl) (by kernel_rfl) (by kernel_rfl) (fun _ _ _ h => h) (Or.inl ⟨by rfl, by intro wx hx; go_simp⟩) (by assumption) ?_
        try simp only [List.getElem_toArray, List.getElem_cons_succ, List.getElem_cons_zero, Act.put, List.setIfInBounds_toArray, List.set_cons_zero, List.set_cons_succ]
        refine wpAnyH_take (i := 9) (v := .int .i64 j) rfl (by kernel_rfl) (by kernel_rfl) (by kernel_rfl) (fun _ _ _ h => h) (Or.inl ⟨by rfl, by intro wx hx; go_simp⟩) (by assumption) ?_
        try simp only [List.getElem_toArray, List.getElem_cons_succ, List.getElem_cons_zero, Act.put, List.setIfInBounds_toArray, List.set_cons_zero, List.set_cons_succ]
        refine wpAnyH_take (i := 10) (v := .pointer (some ⟨bX, oX + j, none⟩)) rfl (by kernel_rfl) (by kernel_rfl) (by kernel_rfl) (fun _ _ _ h => h) (Or.inl ⟨by rfl, by intro wx hx; go_simp⟩) (by assumption) ?_
        try simp only [List.getElem_toArray, List.getElem_cons_succ, List.getElem_cons_zero, Act.put, List.setIfInBounds_toArray, List.set_cons_zero, List.set_cons_succ]
        refine wpAnyH_take (i := 11) (v := .int .i64 r) rfl (by kernel_rfl) (by kernel_rfl) (by kernel_rfl) (fun _ _ _ h => h) (Or.inl ⟨by rfl, by intro wx hx; obtain ⟨_, _⟩ := hx; go_simp⟩) (by assumption) ?_
        try simp only [List.getElem_toArray, List.getElem_cons_succ, List.getElem_cons_zero, Act.put, List.setIfInBounds_toArray, List.set_cons_zero, List.set_cons_succ]
        refine wpAnyH_ready (rs := [12]) (by kernel_rfl) (by simp) ?_
        refine AllReadyH.cons rfl (fun K hK => ?_) AllReadyH.nil
        go_simp
        go_at_call 70
        have e2d : Ext w2 wd := hE2.out _ bd
        refine (wnx_any (w0 := wd) (w := wd) (hW'.ext (e := e2d)) hRi hcp (by omega) hl1.out hb1.out hmv.out).mono ?_
        rw [hnw.out]
        rintro e w5 ⟨d5, m5, rfl, own5, e5⟩
        have hBd : B ≤ wd.heap.size := hBu.out _ bd
        have own6 := Own.join ownd own5 (hB := hBd)
        have b5 : Below B W w5 := bd.trans (e5.below.mono hBd)
        have c5 := (tb_cell (own6.tail) hvs.out hu.out).1
        have c50 := tb_cell (own6.tail) hvs.out hu0.out
        obtain ⟨c50a, c50b⟩ := c50
        have own7 := tb_lay (R := []) (M := T) (xs := R0) (rv := .slice d5 R0.length m5) (i := j) (g := B) (c := X.length + 1) (n := X.length + 1) (vs := vs) own6 hvs.out hTl.out (by omega)
        rw [hnext.out] at own7
        have b7 := b5.setCell (Nat.le_refl B) (p := ⟨B, j, none⟩) (.slice d5 R0.length m5)
        have hvs7 := hid (show (vs.set j (.slice d5 R0.length m5)).length = X.length + 1 by rw [List.length_set]; exact hvs.out)
        have c7 := (tb_cell own7 hvs7.out (j := j + 1) (u := .slice (some ⟨gk, 0, none⟩) R1.length mk) (by rw [List.getElem?_set_ne (by omega)]; exact hu.out)).1
        clear own5 own6
        go_wp2_with fail
        refine hK.out _ _ ⟨c5, hfx.out _ b5⟩ (fun _ => ?_)
        clear hK K
        try simp only [List.getElem_toArray, List.getElem_cons_succ, List.getElem_cons_zero, Act.put, List.setIfInBounds_toArray, List.set_cons_zero, List.set_cons_succ]
        refine wpAnyH_take (i := 13) (v := .pointer (some ⟨B, j, none⟩)) rfl (by kernel_rfl) (by kernel_rfl) (by kernel_rfl) (fun _ _ _ h => h) (Or.inl ⟨by rfl, by intro wx hx; (go_simp; intro hq; exfalso; omega)⟩) (by assumption) ?_
        try simp only [List.getElem_toArray, List.getElem_cons_succ, List.getElem_cons_zero, Act.put, List.setIfInBounds_toArray, List.set_cons_zero, List.set_cons_succ]
        refine wpAnyH_ready (rs := [14]) (by kernel_rfl) (by simp) ?_
        refine AllReadyH.cons rfl (fun K hK => ?_) AllReadyH.nil
        go_simp
        refine hK.out _ _ ⟨c7, hfx.out _ b7⟩ (fun _ => ?_)
        clear hK K
        try simp only [List.getElem_toArray, List.getElem_cons_succ, List.getElem_cons_zero, Act.put, List.setIfInBounds_toArray, List.set_cons_zero, List.set_cons_succ]
        refine wpAnyH_done (by kernel_rfl) ?_ _
        clear c5 c50a c50b c7 ownd bd c1 hRi
        generalize w5.setCell ⟨B, j, none⟩ (.slice d5 R0.length m5) = w7 at *
        go_wp2_with fail
        go_roundw
        case rel => exact ⟨t + 1, by omega, by have := hjr.out; omega, congrArg (Value.int .i64) (by have := hjr.out; omega), b7, _, hvs7, own7⟩
        case measure => have := hjr.out; simp [intOf]
      · have htX : t = X.length + 1 := by omega
        rw [htX] at hown
        rw [show ((X.length : Int) - t) = -1 by omega]
        replace htX := hid htX
        clear hlt ht1 ht
        obtain ⟨T, hTd⟩ : ∃ q, q = rsTab M P X (X.length + 1) := ⟨_, rfl⟩
        have hTl : T.length = X.length + 1 := by rw [hTd]; exact rsTab_len M P X _
        have hTr := hid (show ∀ j, j ≤ X.length → row T j = rsD M P X (X.length - j) from fun j hj => by rw [hTd]; exact rsTab_row hj (by omega))
        rw [← hTd] at hown
        replace hTd := hid hTd
        have hTs : IsRows wo (.slice (some ⟨B, 0, none⟩) T.length T.length) T := by
          have q5 : Tab wo B (.slice (some ⟨B, 0, none⟩) T.length T.length) T [] := ⟨vs, by rw [hTl]; exact hvs.out, by rw [hTl]; exact hown⟩
          have hrw : ∀ r ∈ T, ∃ j, j ≤ X.length ∧ r = rsD M P X (X.length - j) := fun r hr => by
            rw [mem_iff_row] at hr
            obtain ⟨j, hj, rfl⟩ := hr
            exact ⟨j, by omega, hTr.out j (by omega)⟩
          refine q5.reads (by unfold ShortRows; omega) (fun r hr => ?_) (fun r hr => ?_)
          · obtain ⟨j, hj, rfl⟩ := hrw r hr
            have := (hrg.out (X.length - j) (by omega)).1.1
            unfold Short
            omega
          · obtain ⟨j, hj, rfl⟩ := hrw r hr
            exact hri.out (X.length - j) (by omega)
        rw [hTl] at hTs
        replace hTl := hid hTl
        clear hown
        obtain ⟨B2, hB2⟩ : ∃ b, b = wo.heap.size := ⟨_, rfl⟩
        have hEx := hid (show ∀ u, Below B2 wo u → Ext wo u from fun u h => ⟨by rw [← hB2]; exact h⟩)
        have hBl := hid (show ∀ u, Ext wo u → B2 ≤ u.heap.size from fun u e => by rw [hB2]; exact e.size)
        have tab0 : Tab (wo.alloc (.cells #[] 27)) B2 (.slice (some ⟨wo.heap.size, 0, none⟩) 0 0) [] [] := Tab.start (Own.nil _ _) (by rw [hB2]; exact Nat.le_refl _)
        have b0 : Below B2 wo (wo.alloc (.cells #[] 27)) := by rw [hB2]; exact (Below.refl _ _).alloc (Nat.le_refl _) _
        go_upto_region 11 with fail
        replace hB2 := hid hB2
        generalize wo.alloc (.cells #[] 27) = w4 at *
        generalize wo.heap.size = gl at *
        have e04 : Ext w0 w4 := Ext.trans e0o (hEx.out _ b0)
        have e24 : Ext w2 w4 := Ext.trans e2o (hEx.out _ b0)
        go_wp2_with fail
        with_reducible refine (index_any (w0 := w4) (w := w4) (hW'.ext (e := e24)) (ha'.ext (e := e04)) hasc.out hac'.out (by omega)).mono ?_
        rintro e w5 ⟨rfl, rfl⟩
        go_wp2_with fail
        go_loopw [11, 12, 67] (fun ov av i wr => ∃ q : Nat, q ≤ X.length ∧ i = .int .i64 q ∧ av = .int .i64 (atR P (lsA M P a X q)) ∧ Tab wr B2 ov (lsT M P a X q) [] ∧ Below B2 wo wr) (fun _ _ i _ => X.length - (intOf i).toNat)
        case atStart => exact ⟨0, by omega, rfl, rfl, tab0, b0⟩
        case round =>
          clear tab0 b0 e04 e24
          obtain ⟨q, hq, rfl, rfl, tab, hb⟩ := hrel
          obtain ⟨wq, rfl⟩ : ∃ y : World, y = wr := ⟨_, rfl⟩
          have eq : Ext wo wq := hEx.out _ hb
          have e0q : Ext w0 wq := Ext.trans e0o eq
          have e2q : Ext w2 wq := Ext.trans e2o eq
          have hBq := hBl.out _ eq
          by_cases hlt : q < X.length
          · obtain ⟨dO, nO, mO, rfl, hnO⟩ := tab.formN
            obtain ⟨bX, oX, rfl, hcX⟩ := hX'.at (w' := wq) hlt
            obtain ⟨hz1, hz2⟩ := atR_lt (hlc.out q hq)
            obtain ⟨jj, hj1, hj2, hj3⟩ := first_of (hls.out _ (hlc.out q hq) q hlt)
            have hlj := lsJ_at hj1 hj3 hj2
            have hnA := hid (show lsA M P a X (q + 1) = row P jj by rw [lsA, hlj])
            have hTs1 := hid (show lsT M P a X (q + 1) = lsT M P a X q ++ [row P jj] by rw [lsT_succ, hnA.out])
            have hnR := hid (show atR P (lsA M P a X (q + 1)) = jj by rw [hnA.out]; exact hro.out jj hj1)
            have hTl2 : (lsT M P a X q).length ≤ 1000000 := by rw [lsT_len]; omega
            have hg1 := hrg.out (X.length - (q + 1)) (by omega)
            have hg0 := hrg.out (X.length - q) (by omega)
            have hl1 := hg1.1.1
            have hl0 := hg0.1.1
            have hv1 := hid (show ∀ j, j < P.length → 0 ≤ nth (rsD M P X (X.length - (q + 1))) j ∧ nth (rsD M P X (X.length - (q + 1))) j ≤ 1000000 from fun j hj => by have := hg1.2 j hj; omega)
            have hq1 := hTr.out (q + 1) (by omega)
            have hq0 := hTr.out q (by omega)
            obtain ⟨R1, hR1⟩ : ∃ y, y = rsD M P X (X.length - (q + 1)) := ⟨_, rfl⟩
            rw [← hR1] at hl1 hv1 hq1 hj2 hj3
            obtain ⟨R0, hR0⟩ : ∃ y, y = rsD M P X (X.length - q) := ⟨_, rfl⟩
            rw [← hR0] at hl0 hq0 hj2 hj3
            obtain ⟨x, hxd⟩ : ∃ y, y = lsA M P a X q := ⟨_, rfl⟩
            rw [← hxd] at hz1 hz2 hj2 hj3 ⊢
            obtain ⟨z, hzd⟩ : ∃ y, y = atR P x := ⟨_, rfl⟩
            rw [← hzd] at hz1 hz2 hj2 hj3 ⊢
            obtain ⟨TT, hTTd⟩ : ∃ y, y = lsT M P a X q := ⟨_, rfl⟩
            rw [← hTTd] at tab hTs1 hTl2 hnO
            obtain ⟨r, hrd⟩ : ∃ y, y = nth X q := ⟨_, rfl⟩
            rw [← hrd] at hcX hj2 hj3
            obtain ⟨ct, hct⟩ : ∃ y, y = nth R0 z := ⟨_, rfl⟩
            rw [← hct] at hj2 hj3
            have hqs1 : q + 1 < T.length := by rw [hTl.out]; omega
            have hqs0 : q < T.length := by rw [hTl.out]; omega
            rw [← hTl.out] at hTs
            obtain ⟨b6, o6, d6, m6, hd6, hc6, hi6, _⟩ := hTs.at (w' := wq) (k := q + 1) hqs1
            cases hd6
            obtain ⟨b7, o7, d7, m7, hd7, hc7, hi7, _⟩ := hTs.at (w' := wq) (k := q) hqs0
            cases hd7
            rw [Nat.zero_add] at hc6 hc7
            rw [hTl.out] at hTs
            rw [hq1, hl1] at hc6
            rw [hq0, hl0] at hc7
            rw [hq1] at hi6
            rw [hq0] at hi7
            rw [hl1] at hi6
            rw [hl0] at hi7
            obtain ⟨b9, o9, rfl, hc9⟩ := hi7.at (w' := wq) (k := z) (by omega)
            rw [← hct] at hc9
            have y2 := e2q.cell h2
            have y1 := e2q.cell h1
            obtain ⟨b8, o8, d8, m8, hd8, hc8, hi8, _⟩ := hCs.at (w' := wq) (k := z) (by rw [hcl]; exact hz1)
            cases hd8
            rw [(cosL_at hz1 hz1).1] at hc8 hi8
            replace hR1 := hid hR1
            replace hR0 := hid hR0
            replace hxd := hid hxd
            replace hzd := hid hzd
            replace hTTd := hid hTTd
            replace hrd := hid hrd
            replace hct := hid hct
            replace hlj := hid hlj
            replace hq1 := hid hq1
            replace hq0 := hid hq0
            replace hz2 := hid hz2
            replace hj2 := hid hj2
            replace hj3 := hid hj3
            replace hl1 := hid hl1
            replace hl0 := hid hl0
            have hnn : ¬ ((q : Int) + 1 < 0) := by omega
            have hnl : ¬ ((X.length : Int) + 1 ≤ q) := by omega
            have hwr : IntKind.i64.wrap ((q : Int) + 1) = (q : Int) + 1 := IntWalk.i64_in _ (by omega)
            clear hg1 hg0
            go_wp2_with fail
            go_loopw [11, 12, 77] (fun ov av j wr => ∃ t : Nat, t ≤ jj ∧ ov = .slice dO nO mO ∧ av = .int .i64 z ∧ j = .int .i64 t ∧ Drew wq wr) (fun _ _ j _ => P.length - (intOf j).toNat)
            case atStart => exact ⟨0, by omega, rfl, rfl, rfl, Drew.refl _⟩
            case round =>
              obtain ⟨t, ht, rfl, rfl, rfl, hdw⟩ := hrel
              obtain ⟨wt, rfl⟩ : ∃ y : World, y = wr := ⟨_, rfl⟩
              have eqt : Ext wq wt := hdw.ext
              have e0t : Ext w0 wt := Ext.trans e0q eqt
              have e2t : Ext w2 wt := Ext.trans e2q eqt
              have eot : Ext wo wt := Ext.trans eq eqt
              have htP : t < P.length := by omega
              have z1 := eqt.cell y1
              have z2 := eqt.cell y2
              have z6 := eqt.cell hc6
              have z7 := eqt.cell hc7
              have z8 := eqt.cell hc8
              have z9 := eqt.cell hc9
              obtain ⟨b5, o5, d5, m5, rfl, hc5, hr5, _⟩ := hP.at (w' := wt) htP
              have hr5' : IsInts wt _ (row P t) := hr5.ext (w' := wt)
              obtain ⟨b4, o4, rfl, hc4⟩ := hi6.at (w' := wt) (k := t) (by have := hl1.out; omega)
              obtain ⟨b3, o3, rfl, hc3⟩ := hi8.at (w' := wt) (k := t) (by rw [(cosL_at hz1 hz1).1]; exact htP)
              rw [(cosL_at hz1 htP).2, hz2.out] at hc3
              have q2 := hmv.out z t hz1 htP
              rw [hz2.out] at q2
              have q1 := hv1.out t htP
              by_cases hbr : t < jj
              · have hf := hj3.out t hbr
                rw [lsC] at hf
                cases hh : hasB (row P t) r with
                | false =>
                  have hE : ∀ n, Calls Tryz.prog 92 #[.slice d5 (row P t).length m5, .int .i64 r] (wt.drewN n) fun e w' => e = .returned (.bool false) ∧ ∃ m, w' = wt.drewN m := fun n => (sContains_any (w0 := wt) hr5').mono fun e w' ⟨h1, h2⟩ => ⟨by rw [h1, hh], n, h2.symm⟩
                  replace hh := hid hh
                  replace hf := hid hf
                  generalize nth R1 t = y1' at *
                  generalize mvC M x (row P t) = y2' at *
                  go_wp2_with (go_quiet ((go_at_call 92; exact hE _)))
                  go_roundw
                  case rel => exact ⟨t + 1, by omega, rfl, rfl, by go_num, hdw.step _⟩
                  case measure => simp [intOf]; omega
                | true =>
                  rw [hh, Bool.true_and] at hf
                  replace hf : (mvC M x (row P t) + nth R1 t == ct) = false := by simpa using hf
                  have hE : ∀ n, Calls Tryz.prog 92 #[.slice d5 (row P t).length m5, .int .i64 r] (wt.drewN n) fun e w' => e = .returned (.bool true) ∧ ∃ m, w' = wt.drewN m := fun n => (sContains_any (w0 := wt) hr5').mono fun e w' ⟨h1, h2⟩ => ⟨by rw [h1, hh], n, h2.symm⟩
                  replace hh := hid hh
                  generalize nth R1 t = y1' at *
                  generalize mvC M x (row P t) = y2' at *
                  go_wp2_with (go_quiet ((go_at_call 92; exact hE _)))
                  go_roundw
                  case rel => exact ⟨t + 1, by omega, rfl, rfl, by go_num, hdw.step _⟩
                  case measure => simp [intOf]; omega
              · have htj : t = jj := by omega
                subst htj
                have hf := hj2.out
                rw [lsC, Bool.and_eq_true] at hf
                obtain ⟨hh, hf⟩ := hf
                replace hf : (mvC M x (row P t) + nth R1 t == ct) = true := by simpa using hf
                have hE : ∀ n, Calls Tryz.prog 92 #[.slice d5 (row P t).length m5, .int .i64 r] (wt.drewN n) fun e w' => e = .returned (.bool true) ∧ ∃ m, w' = wt.drewN m := fun n => (sContains_any (w0 := wt) hr5').mono fun e w' ⟨h1, h2⟩ => ⟨by rw [h1, hh], n, h2.symm⟩
                replace hh := hid hh
                generalize nth R1 t = y1' at *
                generalize mvC M x (row P t) = y2' at *
                have tabt := tab.ext (w' := wt)
                have hBt : B2 ≤ wt.heap.size := Nat.le_trans hBq eqt.size
                have hbt : Below B2 wo wt := hb.trans (eqt.below.mono hBq)
                go_upto_region 19 with (go_quiet ((go_at_call 92; exact hE _)))
                have etq : Ext wt (wt.drewN nq) := inferInstance
                have tabq := tabt.ext (w' := wt.drewN nq)
                have hr6 := hr5'.ext (w' := wt.drewN nq)
                have hBw : B2 ≤ (wt.drewN nq).heap.size := Nat.le_trans hBt etq.size
                have hbw : Below B2 wo (wt.drewN nq) := hbt.trans (etq.below.mono hBt)
                generalize wt.drewN nq = w6 at *
                clear tab tabt hb hbt hdw
                go_wp2_with fail
                with_reducible refine (cloneInts_any (w0 := w6) (w := w6) hr6).mono ?_
                rintro e w7 ⟨d7', m7', rfl, own7, e7⟩
                have tabX := tabq.join own7 e7 hBw
                have hB7 : B2 ≤ w7.heap.size := Nat.le_trans hBw e7.size
                have hb7 : Below B2 wo w7 := hbw.trans (e7.below.mono hBw)
                clear tabq own7 hbw
                go_wp2_with (at_builtin; refine wpList_push rfl (.tmp 114) (.tmp 117) rfl rfl tabX hB7 rfl hTl2 ?_; intro v9 w9 tab9 b9)
                go_roundw
                case rel => exact ⟨q + 1, by omega, by go_num, by rw [hnR.out], by rw [hTs1.out]; exact tab9, hb7.trans b9⟩
                case measure => simp [intOf]; omega
          · have hqn : q = X.length := by omega
            rw [hqn] at tab
            replace hqn := hid hqn
            have hT := tab.reads hTok.out.1 hTok.out.2.1 hTok.out.2.2
            go_wp2_with fail
            go_ret2
            exact ⟨_, rfl, by rw [hr.out]; exact hT, Ext.trans (Ext.trans e2w e2o) eq⟩
end Go.Proofs.YtmgcfnciejfpbaaGreat
