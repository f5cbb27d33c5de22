/- Several texts in one: Smv Val Lw. -/
import Derived.Test.YtkibmjenjgijmaaGreatGrI
import Derived.Test.YtkibmjenjgijmaaGreatGrD
import Derived.Test.YtkibmjenjgijmaaGreatGrJ
import Derived.Test.YtkibmjenjgijmaaGreatGrC
/- The cost of a schedule's moves, both sides. -/
namespace Go.Proofs.YtkibmjenjgijmaaGreat
open Go.RowKit

theorem sm_srv {M : List (List Int)} {a X : List Int} {C : List (List Int)} (h : srvB M a X = false) : smB M a X C = false ∧ smR M a X C = 0 := by
  have : smB M a X C = false := by simp [smB, h]
  exact ⟨this, by simp [smR, this]⟩
theorem sm_len {M : List (List Int)} {a X : List Int} {C : List (List Int)} (h : C.length ≠ X.length) : smB M a X C = false ∧ smR M a X C = 0 := by
  have : smB M a X C = false := by simp [smB, h]
  exact ⟨this, by simp [smR, this]⟩
theorem sm_bad {M : List (List Int)} {a X : List Int} {C : List (List Int)} {t : Nat} (ht : t < C.length) (h : smOk M a X C t = false) : smB M a X C = false ∧ smR M a X C = 0 := by
  have : smB M a X C = false := by
    cases hb : smB M a X C with
    | false => rfl
    | true =>
      have := (smB_iff.1 hb).2.2 t ht
      rw [h] at this
      cases this
  exact ⟨this, by simp [smR, this]⟩
theorem sm_all {M : List (List Int)} {a X : List Int} {C : List (List Int)} (h : srvB M a X = true) (hl : C.length = X.length) (hok : ∀ z, z < C.length → smOk M a X C z = true) : smB M a X C = true ∧ smR M a X C = scTo M a C X.length := by
  have : smB M a X C = true := smB_iff.2 ⟨h, hl, hok⟩
  exact ⟨this, by simp [smR, this]⟩
/-- what the moves up to a place give -/
theorem sc_upto {M : List (List Int)} {a X : List Int} {C : List (List Int)} (h : srvB M a X = true) {t : Nat} (hok : ∀ z, z < t → smOk M a X C z = true) : scP a C t ∈ confs M.length a.length 0 ∧ 0 ≤ scTo M a C t ∧ scTo M a C t ≤ 297 * t := by
  obtain ⟨hd, hk, ha, _, _⟩ := srv_all h
  induction t with
  | zero => exact ⟨ha, by simp [scTo], by simp [scTo]⟩
  | succ t ih =>
    obtain ⟨h1, h2, h3⟩ := ih fun z hz => hok z (by omega)
    obtain ⟨h4, h5, _⟩ := smOk_iff.1 (hok t (by omega))
    have h6 : row C t ∈ confs M.length a.length 0 := by rw [← h5]; exact cfg_confs h4
    have := mv_confs hd hk.2 h1 h6
    rw [scP_succ, scTo]
    exact ⟨h6, by omega, by omega⟩

end Go.Proofs.YtkibmjenjgijmaaGreat

/- The work lists after the first requests, the reference's; the least costs of both sides. -/
namespace Go.Proofs.YtkibmjenjgijmaaGreat
open Go.RowKit

theorem wl_i64 {M : List (List Int)} {a X : List Int} (h : srvB M a X = true) : ∀ i, i ≤ X.length → ∀ x ∈ wlAt M (confs M.length a.length 0) a X i, I64 x := by
  obtain ⟨hd, hk, ha, hX, hl⟩ := srv_all h
  intro i hi x hx
  have hw := wl_good hd hk.1 hk.2 ha hX (by omega) i hi
  obtain ⟨j, hj, rfl⟩ := mem_iff_nth.1 hx
  have := hw.2 j (by rw [← hw.1.1]; exact hj)
  unfold I64
  omega
theorem wl_len {M : List (List Int)} {a X : List Int} (h : srvB M a X = true) {i : Nat} (hi : i ≤ X.length) : (wlAt M (confs M.length a.length 0) a X i).length = (confs M.length a.length 0).length := by
  obtain ⟨hd, hk, ha, hX, hl⟩ := srv_all h
  exact (wl_good hd hk.1 hk.2 ha hX (by omega) i hi).1.1
theorem wlL_ok {M : List (List Int)} {a X : List Int} (h : srvB M a X = true) {q : Nat} (hq : q ≤ X.length) : ShortRows (wlL M (confs M.length a.length 0) a X q).length ∧ (∀ r ∈ wlL M (confs M.length a.length 0) a X q, Short r.length) ∧ ∀ r ∈ wlL M (confs M.length a.length 0) a X q, ∀ x ∈ r, I64 x := by
  obtain ⟨hd, hk, ha, hX, hl⟩ := srv_all h
  have h216 := confs_216 (met_len (srvB_iff.1 h).1).2 hk.2
  refine ⟨by unfold ShortRows; rw [wlL_len]; omega, fun r hr => ?_, fun r hr => ?_⟩
  · obtain ⟨j, hj, rfl⟩ := List.mem_map.1 hr
    have := List.mem_range.1 hj
    rw [wl_len h (by omega)]
    unfold Short
    omega
  · obtain ⟨j, hj, rfl⟩ := List.mem_map.1 hr
    have := List.mem_range.1 hj
    exact wl_i64 h j (by omega)

set_option maxHeartbeats 1600000 in
set_option maxRecDepth 100000 in
theorem l7Values_any {v va vX : Value} {M : List (List Int)} {a X : List Int} {w0 w : World} [Ext w0 w] (hm : IsMet w0 v M) (ha : IsInts w0 va a) (hXi : IsInts w0 vX X) (hS : srvB M a X = true) :
    Calls Tryz.prog 78 #[v, .int .i64 a.length, va, vX] w fun e w' => ∃ u, e = .returned u ∧ Tab w' w.heap.size u (wlL M (confs M.length a.length 0) a X X.length) [] ∧ Ext w w' := by
  have hm' := hm
  have ha' := ha
  have hX' := hXi
  obtain ⟨v1, rfl, hR⟩ := hm
  obtain ⟨a1, c1, rfl, l1⟩ := hR.form
  obtain ⟨da, ma, rfl, la⟩ := ha.form
  obtain ⟨aX, mX, rfl, lX⟩ := hXi.form
  have hlok := hid (fun q (hq : q ≤ X.length) => wlL_ok hS hq)
  obtain ⟨hd, hk, hac, hX, hl⟩ := srv_all hS
  have hM := hid (srvB_iff.1 hS).1
  have hwl := hid (wl_good hd hk.1 hk.2 hac hX (by omega))
  have hX2 := hid hX
  have hac' := hid hac
  have hk1 := hk.1
  have hk3 := hk.2
  have h216 := confs_216 (met_len hM.out).2 hk3
  replace hS := hid hS
  clear hd hac hX hk
  have hw0 := hid (show wlL M (confs M.length a.length 0) a X 0 = [wst M (confs M.length a.length 0) a] from rfl)
  go_enter Tryz.func78, Tryz.ntmps78
  go_upto_region 1 with fail
  have ez : Ext w (w.alloc (.cells #[.slice a1 M.length c1] 26)) := inferInstance
  have z0 : (w.alloc (.cells #[.slice a1 M.length c1] 26)).cell? ⟨w.heap.size, 0, none⟩ = some (.slice a1 M.length c1) := by go_simp
  obtain ⟨bx, hbx⟩ : ∃ b, b = w.heap.size := ⟨_, rfl⟩
  rw [← hbx] at z0 ⊢
  replace hbx := hid hbx
  generalize w.alloc (.cells #[.slice a1 M.length c1] 26) = wz at *
  have e0z : Ext w0 wz := Ext.trans ‹Ext w0 w› ez
  obtain ⟨B, hB⟩ : ∃ b, b = wz.heap.size := ⟨_, rfl⟩
  have hEx := hid (show ∀ u, Below B wz u → Ext wz u from fun u h => ⟨by rw [← hB]; exact h⟩)
  have hBl := hid (show ∀ u, Ext wz u → B ≤ u.heap.size from fun u e => by rw [hB]; exact e.size)
  have hXb := hid (show ∀ u, Ext wz u → Below B wz u from fun u e => by rw [hB]; exact e.below)
  have hwB := hid (show w.heap.size ≤ B by rw [hB]; exact ez.size)
  go_wp2_with fail
  with_reducible refine (l7Start_any (w0 := w0) (w := wz) hm' hM.out ha' hk3 hac'.out).mono ?_
  rw [← hB]
  rintro e w1 ⟨u1, rfl, own1, e1⟩
  replace hB := hid hB
  obtain ⟨d1, m1, hu1⟩ := own1.form
  have hu1' : u1 = .slice d1 (wst M (confs M.length a.length 0) a).length m1 := hu1
  subst hu1'
  have hB1 := hBl.out _ e1
  have oL := own1.lit 27 1 1 #[.slice d1 (wst M (confs M.length a.length 0) a).length m1] hB1 (by unfold maxLen; omega) rfl
  have e2 : Ext wz (w1.alloc (.cells #[.slice d1 (wst M (confs M.length a.length 0) a).length m1] 27)) := Ext.trans e1 inferInstance
  go_upto_region 2 with fail
  generalize w1.alloc (.cells #[.slice d1 (wst M (confs M.length a.length 0) a).length m1] 27) = w2 at *
  generalize w1.heap.size = gl at *
  have tab0 : Tab w2 B (.slice (some ⟨gl, 0, none⟩) 1 1) (wlL M (confs M.length a.length 0) a X 0) [] := ⟨[.slice d1 (wst M (confs M.length a.length 0) a).length m1], rfl, by rw [hw0.out]; exact oL⟩
  have b2 := hXb.out _ e2
  obtain ⟨P, hPd⟩ : ∃ p, p = confs M.length a.length 0 := ⟨_, rfl⟩
  rw [← hPd] at tab0 h216 hwl hlok ⊢
  replace hPd := hid hPd
  clear own1 oL hu1 hw0 e1 e2
  go_wp2_with fail
  go_loopw [9, 10] (fun ov i wr => ∃ q : Nat, q ≤ X.length ∧ i = .int .i64 q ∧ Tab wr B ov (wlL M P a X q) [] ∧ Below B wz wr) (fun _ i _ => X.length - (intOf i).toNat)
  case atStart => exact ⟨0, by omega, rfl, tab0, b2⟩
  case round =>
    clear tab0 b2
    obtain ⟨q, hq, rfl, tab, hb⟩ := hrel
    obtain ⟨wq, rfl⟩ : ∃ y : World, y = wr := ⟨_, rfl⟩
    have eq : Ext wz wq := hEx.out _ hb
    have e0q : Ext w0 wq := Ext.trans e0z eq
    have hBq := hBl.out _ eq
    by_cases hlt : q < X.length
    · obtain ⟨dO, nO, mO, rfl, hnO⟩ := tab.formN
      obtain ⟨ho1, ho2, ho3⟩ := hlok.out q hq
      have hgW := hid (show GoodW M (confs M.length a.length 0) (wlAt M P a X q) 300000 by
        have h := (hwl.out q hq).mono (L' := 300000) (by omega)
        rw [hPd.out] at h ⊢; exact h)
      have hT := fun u (ht : Tab u B (.slice dO nO mO) (wlL M P a X q) []) => (ht.reads ho1 ho2 ho3).at (w' := u) (k := q) (by rw [wlL_len]; omega)
      have hrq := hid (show row (wlL M P a X q) q = wlAt M P a X q from wlL_row (Nat.le_refl _))
      have hqn : q < nO := by rw [hnO.out, wlL_len]; omega
      obtain ⟨bX, oX, rfl, hcX⟩ := hX'.at (w' := w0) hlt
      have hrr := hid (hX2.out q hlt)
      have hTl : (wlL M P a X q).length ≤ 1000000 := by rw [wlL_len]; omega
      have hTs := hid (show wlL M P a X (q + 1) = wlL M P a X q ++ [wlAt M P a X (q + 1)] from wlL_succ)
      have hnw := hid (show wnxL M (confs M.length a.length 0) (wlAt M P a X q) (nth X q) = wlAt M P a X (q + 1) by rw [← hPd.out]; rfl)
      have hlw : (wlAt M P a X q).length ≤ 216 := by rw [(hwl.out q hq).1.1]; exact h216
      obtain ⟨r, hr⟩ : ∃ y, y = nth X q := ⟨_, rfl⟩
      rw [← hr] at hcX hrr hnw
      replace hr := hid hr
      have hSx := hid (show ∀ u, Below B wz u → u.cell? ⟨bx, 0, none⟩ = some (.slice a1 M.length c1) ∧ u.cell? ⟨bX, oX + q, none⟩ = some (.int .i64 r) from fun u h => ⟨(hEx.out _ h).cell z0, (Ext.trans e0z (hEx.out _ h)).cell hcX⟩)
      go_upto_region 5 with fail
      have tabd := tab.ext (w' := wq.drew)
      have bd : Below B wz wq.drew := hb.drew
      clear tab hb eq e0q
      obtain ⟨bO, oO, dW, mW, rfl, hcW, hWI, _⟩ := hT _ tabd
      rw [hrq.out] at hcW hWI
      clear hT
      obtain ⟨W, hWd⟩ : ∃ y, y = wlAt M P a X q := ⟨_, rfl⟩
      rw [← hWd] at hcW hWI hnw hlw hgW
      obtain ⟨NW, hNW⟩ : ∃ y, y = wlAt M P a X (q + 1) := ⟨_, rfl⟩
      rw [← hNW] at hnw hTs
      obtain ⟨T, hTd⟩ : ∃ y, y = wlL M P a X q := ⟨_, rfl⟩
      rw [← hTd] at hTs hTl tabd hnO
      replace hWd := hid hWd
      replace hNW := hid hNW
      replace hTd := hid hTd
      refine wp_region_held_drew (S := fun u => u.cell? ⟨bx, 0, none⟩ = some (.slice a1 M.length c1) ∧ u.cell? ⟨bX, oX + q, none⟩ = some (.int .i64 r)) (by kernel_rfl) (hSx.out _ bd) (fun hHeld0 => ?_)
      generalize wq.drew = wd at *
      refine wpAnyH_take (i := 0) (v := .slice (some ⟨bO, oO, none⟩) nO mO) rfl (by kernel_rfl) (by kernel_rfl) (by kernel_rfl) (fun _ _ _ h => h) (Or.inl ⟨by rfl, by intro wx hx; go_simp⟩) (by assumption) ?_
      try simp only [List.getElem_toArray, List.getElem_cons_zero, Act.put, List.setIfInBounds_toArray, List.set_cons_zero, List.set_cons_succ]
      refine wpAnyH_take (i := 1) (v := .agg #[.slice a1 M.length c1]) rfl (by kernel_rfl) (by kernel_rfl) (by kernel_rfl) (fun _ _ _ h => h) (Or.inl ⟨by rfl, by intro wx hx; obtain ⟨_, _⟩ := hx; go_simp⟩) (by assumption) ?_
      try simp only [List.getElem_toArray, List.getElem_cons_succ, List.getElem_cons_zero, Act.put, List.setIfInBounds_toArray, List.set_cons_zero, List.set_cons_succ]
      refine wpAnyH_take (i := 2) (v := .int .i64 a.length) rfl (by kernel_rfl) (by kernel_rfl) (by kernel_rfl) (fun _ _ _ h => h) (Or.inl ⟨by rfl, by intro wx hx; go_simp⟩) (by assumption) ?_
      try simp only [List.getElem_toArray, List.getElem_cons_succ, List.getElem_cons_zero, Act.put, List.setIfInBounds_toArray, List.set_cons_zero, List.set_cons_succ]
      refine wpAnyH_take (i := 3) (v := .slice (some ⟨bO, oO, none⟩) nO mO) rfl (by kernel_rfl) (by kernel_rfl) (by kernel_rfl) (fun _ _ _ h => h) (Or.inl ⟨by rfl, by intro wx hx; go_simp⟩) (by assumption) ?_
      try simp only [List.getElem_toArray, List.getElem_cons_succ, List.getElem_cons_zero, Act.put, List.setIfInBounds_toArray, List.set_cons_zero, List.set_cons_succ]
      refine wpAnyH_take (i := 4) (v := .int .i64 q) rfl (by kernel_rfl) (by kernel_rfl) (by kernel_rfl) (fun _ _ _ h => h) (Or.inl ⟨by rfl, by intro wx hx; go_simp⟩) (by assumption) ?_
      try simp only [List.getElem_toArray, List.getElem_cons_succ, List.getElem_cons_zero, Act.put, List.setIfInBounds_toArray, List.set_cons_zero, List.set_cons_succ]
      refine wpAnyH_take (i := 5) (v := .pointer (some ⟨bO, oO + q, none⟩)) rfl (by kernel_rfl) (by kernel_rfl) (by kernel_rfl) (fun _ _ _ h => h) (Or.inl ⟨by rfl, by intro wx hx; go_simp⟩) (by assumption) ?_
      try simp only [List.getElem_toArray, List.getElem_cons_succ, List.getElem_cons_zero, Act.put, List.setIfInBounds_toArray, List.set_cons_zero, List.set_cons_succ]
      refine wpAnyH_take (i := 7) (v := .slice (some ⟨bX, oX, none⟩) X.length mX) rfl (by kernel_rfl) (by kernel_rfl) (by kernel_rfl) (fun _ _ _ h => h) (Or.inl ⟨by rfl, by intro wx hx; go_simp⟩) (by assumption) ?_
      try simp only [List.getElem_toArray, List.getElem_cons_succ, List.getElem_cons_zero, Act.put, List.setIfInBounds_toArray, List.set_cons_zero, List.set_cons_succ]
      refine wpAnyH_take (i := 8) (v := .int .i64 q) rfl (by kernel_rfl) (by kernel_rfl) (by kernel_rfl) (fun _ _ _ h => h) (Or.inl ⟨by rfl, by intro wx hx; go_simp⟩) (by assumption) ?_
      try simp only [List.getElem_toArray, List.getElem_cons_succ, List.getElem_cons_zero, Act.put, List.setIfInBounds_toArray, List.set_cons_zero, List.set_cons_succ]
      refine wpAnyH_take (i := 9) (v := .pointer (some ⟨bX, oX + q, none⟩)) rfl (by kernel_rfl) (by kernel_rfl) (by kernel_rfl) (fun _ _ _ h => h) (Or.inl ⟨by rfl, by intro wx hx; go_simp⟩) (by assumption) ?_
      try simp only [List.getElem_toArray, List.getElem_cons_succ, List.getElem_cons_zero, Act.put, List.setIfInBounds_toArray, List.set_cons_zero, List.set_cons_succ]
      refine wpAnyH_take (i := 10) (v := .int .i64 r) rfl (by kernel_rfl) (by kernel_rfl) (by kernel_rfl) (fun _ _ _ h => h) (Or.inl ⟨by rfl, by intro wx hx; obtain ⟨_, _⟩ := hx; go_simp⟩) (by assumption) ?_
      try simp only [List.getElem_toArray, List.getElem_cons_succ, List.getElem_cons_zero, Act.put, List.setIfInBounds_toArray, List.set_cons_zero, List.set_cons_succ]
      refine wpAnyH_ready (rs := [6]) (by kernel_rfl) (by simp) ?_
      refine AllReadyH.cons rfl (fun K hK => ?_) AllReadyH.nil
      go_simp
      refine hK.out _ _ (hSx.out _ bd) (fun _ => ?_)
      clear hK K
      try simp only [List.getElem_toArray, List.getElem_cons_succ, List.getElem_cons_zero, Act.put, List.setIfInBounds_toArray, List.set_cons_zero, List.set_cons_succ]
      refine wpAnyH_ready (rs := [11]) (by kernel_rfl) (by simp) ?_
      refine AllReadyH.cons rfl (fun K hK => ?_) AllReadyH.nil
      go_simp
      go_at_call 112
      have e0d : Ext w0 wd := Ext.trans e0z (hEx.out _ bd)
      refine (l7NextO_any (w0 := wd) (w := wd) (hm'.ext (e := e0d)) hM.out hWI hk1 hk3 hgW.out (by omega) hrr.out).mono ?_
      rw [hnw.out]
      rintro e w5 ⟨u5, rfl, ownN, e5⟩
      have hBd : B ≤ wd.heap.size := hBl.out _ (hEx.out _ bd)
      obtain ⟨dN, mN, hu5⟩ := ownN.form
      have hu5' : u5 = .slice dN NW.length mN := hu5
      subst hu5'
      obtain ⟨vs, hvs, own⟩ := tabd
      have own5 := (Own.join (own.ext (w' := wd)) ownN (hB := hBd)).perm (List.Perm.swap _ _ _)
      have b5 : Below B wz w5 := bd.trans (e5.below.mono hBd)
      have hB5 : B ≤ w5.heap.size := hBl.out _ (hEx.out _ b5)
      clear ownN own hu5
      go_wp2_with fail
      refine hK.out _ _ (hSx.out _ b5) (fun _ => ?_)
      clear hK K
      try simp only [List.getElem_toArray, List.getElem_cons_succ, List.getElem_cons_zero, Act.put, List.setIfInBounds_toArray, List.set_cons_zero, List.set_cons_succ]
      refine wpAnyH_ready (rs := [12]) (by kernel_rfl) (by simp) ?_
      refine AllReadyH.cons rfl (fun K hK => ?_) AllReadyH.nil
      go_simp
      have o6 := own5.lit 27 1 1 #[.slice dN NW.length mN] hB5 (by unfold maxLen; omega) rfl
      have b6 : Below B wz (w5.alloc (.cells #[.slice dN NW.length mN] 27)) := b5.alloc hB5 _
      have hn6 : (w5.alloc (.cells #[.slice dN NW.length mN] 27)).cell? ⟨w5.heap.size, 0, none⟩ = some (.slice dN NW.length mN) := by go_simp
      refine hK.out _ _ (hSx.out _ b6) (fun _ => ?_)
      clear hK K
      try simp only [List.getElem_toArray, List.getElem_cons_succ, List.getElem_cons_zero, Act.put, List.setIfInBounds_toArray, List.set_cons_zero, List.set_cons_succ]
      have o7 := o6.tail
      clear o6 own5
      generalize w5.alloc (.cells #[.slice dN NW.length mN] 27) = w6 at *
      generalize w5.heap.size = g6 at *
      have hB6 : B ≤ w6.heap.size := hBl.out _ (hEx.out _ b6)
      have hvn : vs.length = nO := by rw [hvs, hnO.out]
      have o8 : Own w6 B (⟨27, 1, .slice (some ⟨bO, oO, none⟩) nO mO, nO, vs⟩ :: (intRowOf 3 (.slice dN NW.length mN) NW :: (List.zipWith (intRowOf 3) vs T ++ []))) := by
        rw [← hvn] at o7 ⊢
        exact o7
      refine wpAnyH_ready (rs := [13]) (by kernel_rfl) (by simp) ?_
      refine AllReadyH.cons rfl (fun K hK => ?_) AllReadyH.nil
      refine stp_one rfl (.tmp 22) (.tmp 34) 24 rfl elemInts rfl o8 hB6 (us := [.slice dN NW.length mN]) rfl rfl ?_ (by intro u hu; simp at hu; subst hu; rfl) (by rw [← hvn, hvs]; omega) (by rw [← hvn, hvs]; omega) ?_
      · intro jj u hj
        match jj, hj with
        | 0, hj => simp at hj; subst hj; exact hn6
      intro v8 w8 ho8 hb8
      have b8 := b6.trans hb8
      rw [← hvn] at ho8
      have ho9 := rows_in0 ho8 hvs
      have tab8 : Tab w8 B v8 (T ++ [NW]) [] := ⟨vs ++ [Value.slice dN NW.length mN], by simp [hvs], ho9⟩
      refine hK.out _ _ (hSx.out _ b8) (fun _ => ?_)
      clear hK K
      try simp only [List.getElem_toArray, List.getElem_cons_succ, List.getElem_cons_zero, Act.put, List.setIfInBounds_toArray, List.set_cons_zero, List.set_cons_succ]
      refine wpAnyH_take (i := 14) (v := v8) rfl (by kernel_rfl) (by kernel_rfl) (by kernel_rfl) (fun _ _ _ h => h) (Or.inl ⟨by rfl, by intro wx hx; go_simp⟩) (by assumption) ?_
      try simp only [List.getElem_toArray, List.getElem_cons_succ, List.getElem_cons_zero, Act.put, List.setIfInBounds_toArray, List.set_cons_zero, List.set_cons_succ]
      refine wpAnyH_done (by kernel_rfl) ?_ _
      clear ho8 ho9 o7 o8
      go_wp2_with fail
      go_roundw
      case rel => exact ⟨q + 1, by omega, by go_num, by rw [hTs.out]; exact tab8, b8⟩
      case measure => simp [intOf]; omega
    · have hqn : q = X.length := by omega
      rw [hqn] at tab
      replace hqn := hid hqn
      obtain ⟨vs, hvs, own⟩ := tab
      go_wp2_with fail
      go_ret
      exact ⟨_, rfl, by rw [← hPd.out]; exact ⟨vs, hvs, own.mono hwB.out⟩, Ext.trans ez eq⟩
end Go.Proofs.YtkibmjenjgijmaaGreat

/- The least costs and the work lists of servers, both sides. -/
namespace Go.Proofs.YtkibmjenjgijmaaGreat
open Go.RowKit

set_option maxHeartbeats 400000 in
theorem l7Least_any {v : Value} {xs : List Int} {w0 w : World} [Ext w0 w] (hx : IsInts w0 v xs) (h0 : 0 < xs.length) :
    Calls Tryz.prog 79 #[v] w fun e w' => e = .returned (.int .i64 (leastL xs)) ∧ w = w' := by
  obtain ⟨a, c, rfl, la⟩ := hx.form
  obtain ⟨b, o, rfl, hc0⟩ := hx.at (w' := w) h0
  rw [Nat.add_zero] at hc0
  go_enter Tryz.func79, Tryz.ntmps79
  go_wp2
  go_loop [3, 4] (fun q i => ∃ k : Nat, k < xs.length ∧ i = .int .i64 ((k : Int) + 1) ∧ q = .int .i64 (leastTo xs k)) (fun _ i => xs.length - (intOf i).toNat)
  case atStart => exact ⟨0, by omega, rfl, rfl⟩
  case round =>
    obtain ⟨k, hk, rfl, rfl⟩ := hrel
    by_cases hlt : k + 1 < xs.length
    · obtain ⟨b', o', hq, hc⟩ := hx.at (w' := w) hlt
      cases hq
      have hs := hid (leastTo_succ hlt)
      have hlt' : (k : Int) + 1 < (xs.length : Int) := by omega
      generalize leastTo xs k = lt at *
      go_wp2_with (go_at_call 113; refine (l1Least_any _ _ _).mono ?_; rw [← hs.out]; rintro e w1 ⟨rfl, rfl⟩)
      go_round
      case rel => exact ⟨k + 1, hlt, by go_num, rfl⟩
      case measure => simp [intOf]; omega
    · have hlt' : ¬ (k : Int) + 1 < (xs.length : Int) := by omega
      go_wp2
      go_ret
      exact ⟨ret_int (leastTo_all (by omega)), rfl⟩


def wlR (M : List (List Int)) (a X : List Int) : List (List Int) := if srvB M a X then wlL M (confs M.length a.length 0) a X X.length else []
theorem wlR_yes {M : List (List Int)} {a X : List Int} (h : srvB M a X = true) : wlR M a X = wlL M (confs M.length a.length 0) a X X.length := by rw [wlR, if_pos h]
theorem wlR_no {M : List (List Int)} {a X : List Int} (h : srvB M a X = false) : wlR M a X = [] ∧ lwR M a X = 0 := by simp [wlR, lwR, h]
theorem rows_none (u : World) (d : Option Addr) (c : Nat) : IsRows u (.slice d 0 c) [] := ⟨d, c, rfl, by unfold ShortRows; simp, fun j hj => by simp at hj⟩

set_option maxHeartbeats 1600000 in
set_option maxRecDepth 100000 in
theorem leastWork_any {v va vX : Value} {M : List (List Int)} {a X : List Int} {w0 w : World} [Ext w0 w] (hm : IsMet w0 v M) (ha : IsInts w0 va a) (hXi : IsInts w0 vX X) (hS : srvB M a X = true) :
    Calls Tryz.prog 33 #[v, va, vX] w fun e w' => e = .returned (.int .i64 (lwR M a X)) ∧ Ext w w' := by
  have hm' := hm
  have ha' := ha
  have hX' := hXi
  obtain ⟨v1, rfl, hR⟩ := hm
  obtain ⟨a1, c1, rfl, l1⟩ := hR.form
  obtain ⟨da, ma, rfl, la⟩ := ha.form
  obtain ⟨aX, mX, rfl, lX⟩ := hXi.form
  have x0 : (w.alloc (.cells #[.slice a1 M.length c1] 26)).cell? ⟨w.heap.size, 0, none⟩ = some (.slice a1 M.length c1) := by go_simp
  obtain ⟨hM, hk, hac, hl, hX⟩ := srv_parts hS
  have hlok := hid (wlL_ok hS (Nat.le_refl X.length))
  have hne := hid (wl_ne hS (Nat.le_refl X.length))
  have hM' := hid hM
  have hac' := hid hac
  have hX2 := hid hX
  have hSS := hid hS
  clear hac hX hM
  replace hS := hid hS
  have hlw := hid (show lwR M a X = leastL (wlAt M (confs M.length a.length 0) a X X.length) by rw [lwR, if_pos hS.out])
  go_enter Tryz.func33, Tryz.ntmps33
  go_wp2_with fail
  with_reducible refine (worksOf_any (w0 := w0) hm' hM'.out hk.1 hk.2).mono ?_
  rintro e w2 ⟨u, rfl, hW, e2⟩
  have e2w : Ext w w2 := Ext.trans inferInstance e2
  have e02 : Ext w0 w2 := Ext.trans ‹Ext w0 w› e2w
  go_wp2_with fail
  with_reducible refine (lists_any (w0 := w2) (w := w2) hW hM'.out (ha'.ext (w' := w2)) (hX'.ext (w' := w2)) hk.1 hk.2 hac'.out (by omega) hX2.out).mono ?_
  rintro e w3 ⟨vT, rfl, tabT, e3⟩
  have hT : IsRows w3 vT (wlL M (confs M.length a.length 0) a X X.length) := tabT.reads hlok.out.1 hlok.out.2.1 hlok.out.2.2
  obtain ⟨dT, mT, rfl, lT⟩ := hT.form
  obtain ⟨bO, oO, dW, mW, rfl, hcW, hWI, _⟩ := hT.at (w' := w3) (k := X.length) (by rw [wlL_len]; omega)
  have hrq := hid (show row (wlL M (confs M.length a.length 0) a X X.length) X.length = wlAt M (confs M.length a.length 0) a X X.length from wlL_row (Nat.le_refl _))
  rw [hrq.out] at hcW hWI
  have hTl : (wlL M (confs M.length a.length 0) a X X.length).length = X.length + 1 := wlL_len
  have hW0 : 0 < (wlAt M (confs M.length a.length 0) a X X.length).length := List.length_pos_iff.2 hne.out
  generalize wlAt M (confs M.length a.length 0) a X X.length = W at *
  generalize wlL M (confs M.length a.length 0) a X X.length = T at *
  clear tabT
  go_wp2_with fail
  with_reducible refine (sMin_any (w0 := w3) (w := w3) hWI hW0).mono ?_
  rintro e w4 ⟨rfl, rfl⟩
  go_wp2_with fail
  go_ret
  exact ⟨ret_int hlw.out.symm, Ext.trans e2w e3⟩

set_option maxHeartbeats 1600000 in
set_option maxRecDepth 100000 in
theorem l7Optimum_any {v va vX : Value} {M : List (List Int)} {a X : List Int} {w0 w : World} [Ext w0 w] (hm : IsMet w0 v M) (ha : IsInts w0 va a) (hXi : IsInts w0 vX X) (hS : srvB M a X = true) :
    Calls Tryz.prog 35 #[v, va, vX] w fun e w' => e = .returned (.int .i64 (lwR M a X)) ∧ Ext w w' := by
  have hm' := hm
  have ha' := ha
  have hX' := hXi
  obtain ⟨v1, rfl, hR⟩ := hm
  obtain ⟨a1, c1, rfl, l1⟩ := hR.form
  obtain ⟨da, ma, rfl, la⟩ := ha.form
  obtain ⟨aX, mX, rfl, lX⟩ := hXi.form
  have x0 : (w.alloc (.cells #[.slice a1 M.length c1] 26)).cell? ⟨w.heap.size, 0, none⟩ = some (.slice a1 M.length c1) := by go_simp
  obtain ⟨hM, hk, hac, hl, hX⟩ := srv_parts hS
  have hlok := hid (wlL_ok hS (Nat.le_refl X.length))
  have hne := hid (wl_ne hS (Nat.le_refl X.length))
  have hM' := hid hM
  have hac' := hid hac
  have hX2 := hid hX
  have hSS := hid hS
  clear hac hX hM
  replace hS := hid hS
  have hlw := hid (show lwR M a X = leastL (wlAt M (confs M.length a.length 0) a X X.length) by rw [lwR, if_pos hS.out])
  go_enter Tryz.func35, Tryz.ntmps35
  go_wp2_with fail
  with_reducible refine (l7Values_any (w0 := w0) hm' ha' hX' hS.out).mono ?_
  rintro e w3 ⟨vT, rfl, tabT, e3⟩
  have hT : IsRows w3 vT (wlL M (confs M.length a.length 0) a X X.length) := tabT.reads hlok.out.1 hlok.out.2.1 hlok.out.2.2
  obtain ⟨dT, mT, rfl, lT⟩ := hT.form
  obtain ⟨bO, oO, dW, mW, rfl, hcW, hWI, _⟩ := hT.at (w' := w3) (k := X.length) (by rw [wlL_len]; omega)
  have hrq := hid (show row (wlL M (confs M.length a.length 0) a X X.length) X.length = wlAt M (confs M.length a.length 0) a X X.length from wlL_row (Nat.le_refl _))
  rw [hrq.out] at hcW hWI
  have hTl : (wlL M (confs M.length a.length 0) a X X.length).length = X.length + 1 := wlL_len
  have hW0 : 0 < (wlAt M (confs M.length a.length 0) a X X.length).length := List.length_pos_iff.2 hne.out
  generalize wlAt M (confs M.length a.length 0) a X X.length = W at *
  generalize wlL M (confs M.length a.length 0) a X X.length = T at *
  clear tabT
  go_wp2_with fail
  with_reducible refine (l7Least_any (w0 := w3) (w := w3) hWI hW0).mono ?_
  rintro e w4 ⟨rfl, rfl⟩
  go_wp2_with fail
  go_ret
  exact ⟨ret_int hlw.out.symm, Ext.trans inferInstance e3⟩

set_option maxHeartbeats 1600000 in
set_option maxRecDepth 100000 in
theorem implLeast_any {v va vX : Value} {M : List (List Int)} {a X : List Int} {w0 w : World} [Ext w0 w] (hm : IsMet w0 v M) (ha : IsInts w0 va a) (hXi : IsInts w0 vX X) :
    Calls Tryz.prog 10 #[v, va, vX] w fun e w' => e = .returned (.tuple #[.int .i64 (lwR M a X), .bool (srvB M a X)]) ∧ Ext w w' := by
  have hm' := hm
  have ha' := ha
  have hX' := hXi
  obtain ⟨v1, rfl, hR⟩ := hm
  obtain ⟨a1, c1, rfl, l1⟩ := hR.form
  obtain ⟨da, ma, rfl, la⟩ := ha.form
  obtain ⟨aX, mX, rfl, lX⟩ := hXi.form
  have x0 : (w.alloc (.cells #[.slice a1 M.length c1] 26)).cell? ⟨w.heap.size, 0, none⟩ = some (.slice a1 M.length c1) := by go_simp
  cases hS : srvB M a X with
  | false =>
    have hr := hid (wlR_no hS)
    replace hS := hid hS
    go_enter Tryz.func10, Tryz.ntmps10
    go_wp2_with fail
    with_reducible refine (isServed_any (w0 := w0) hm' ha' hX').mono ?_
    rw [hS.out]
    rintro e w1 ⟨rfl, e1⟩
    have x1 := e1.cell x0
    have e1w : Ext w w1 := Ext.trans inferInstance e1
    have e01 : Ext w0 w1 := Ext.trans ‹Ext w0 w› e1w
    go_wp2_with fail
    go_ret2
    rw [hr.out.2]
    exact ⟨rfl, Ext.trans e1w inferInstance⟩
  | true =>
    have hSS := hS
    have hyes := hid (wlR_yes hS)
    obtain ⟨hM, hk, hac, hl, hX⟩ := srv_parts hS
    have hlok := hid (wlL_ok hS (Nat.le_refl X.length))
    have hne := hid (wl_ne hS (Nat.le_refl X.length))
    have hM' := hid hM
    have hac' := hid hac
    have hX2 := hid hX
    clear hac hX hM
    replace hS := hid hS
    go_enter Tryz.func10, Tryz.ntmps10
    go_wp2_with fail
    with_reducible refine (isServed_any (w0 := w0) hm' ha' hX').mono ?_
    rw [hS.out]
    rintro e w1 ⟨rfl, e1⟩
    have x1 := e1.cell x0
    have e1w : Ext w w1 := Ext.trans inferInstance e1
    have e01 : Ext w0 w1 := Ext.trans ‹Ext w0 w› e1w
    go_wp2_with fail
    with_reducible refine (leastWork_any (w0 := w0) hm' ha' hX' hS.out).mono ?_
    rintro e w2 ⟨rfl, e2⟩
    go_wp2_with fail
    go_ret2
    exact ⟨rfl, Ext.trans e1w e2⟩

set_option maxHeartbeats 1600000 in
set_option maxRecDepth 100000 in
theorem specLeast_any {v va vX : Value} {M : List (List Int)} {a X : List Int} {w0 w : World} [Ext w0 w] (hm : IsMet w0 v M) (ha : IsInts w0 va a) (hXi : IsInts w0 vX X) :
    Calls Tryz.prog 11 #[v, va, vX] w fun e w' => e = .returned (.tuple #[.int .i64 (lwR M a X), .bool (srvB M a X)]) ∧ Ext w w' := by
  have hm' := hm
  have ha' := ha
  have hX' := hXi
  obtain ⟨v1, rfl, hR⟩ := hm
  obtain ⟨a1, c1, rfl, l1⟩ := hR.form
  obtain ⟨da, ma, rfl, la⟩ := ha.form
  obtain ⟨aX, mX, rfl, lX⟩ := hXi.form
  have x0 : (w.alloc (.cells #[.slice a1 M.length c1] 26)).cell? ⟨w.heap.size, 0, none⟩ = some (.slice a1 M.length c1) := by go_simp
  cases hMB : metB M with
  | false =>
    have hS : srvB M a X = false := by simp [srvB, hMB]
    have hr := hid (wlR_no hS)
    replace hS := hid hS
    replace hMB := hid hMB
    go_enter Tryz.func11, Tryz.ntmps11
    go_wp2_with fail
    with_reducible refine (l6Good_any (w0 := w0) hm').mono ?_
    rw [hMB.out]
    rintro e w1 ⟨rfl, e1⟩
    have e1w : Ext w w1 := Ext.trans inferInstance e1
    go_wp2_with fail
    go_ret2
    rw [hr.out.2, hS.out]
    exact ⟨rfl, Ext.trans e1w inferInstance⟩
  | true =>
    replace hMB := hid hMB
    cases hS : srvB M a X with
    | false =>
      have hr := hid (wlR_no hS)
      replace hS := hid hS
      go_enter Tryz.func11, Tryz.ntmps11
      go_wp2_with fail
      with_reducible refine (l6Good_any (w0 := w0) hm').mono ?_
      rw [hMB.out]
      rintro e w1 ⟨rfl, e1⟩
      have x1 := e1.cell x0
      have e1w : Ext w w1 := Ext.trans inferInstance e1
      have e01 : Ext w0 w1 := Ext.trans ‹Ext w0 w› e1w
      go_wp2_with fail
      with_reducible refine (l6Start_any (w0 := w0) hm' ha' hX').mono ?_
      rw [hS.out]
      rintro e w1' ⟨rfl, e1'⟩
      have x1' := e1'.cell x1
      have e1w' : Ext w w1' := Ext.trans e1w e1'
      have e01' : Ext w0 w1' := Ext.trans ‹Ext w0 w› e1w'
      go_wp2_with fail
      go_ret2
      rw [hr.out.2]
      exact ⟨rfl, Ext.trans e1w' inferInstance⟩
    | true =>
      have hyes := hid (wlR_yes hS)
      obtain ⟨hM, hk, hac, hl, hX⟩ := srv_parts hS
      have hlok := hid (wlL_ok hS (Nat.le_refl X.length))
      have hne := hid (wl_ne hS (Nat.le_refl X.length))
      have hM' := hid hM
      have hac' := hid hac
      have hX2 := hid hX
      clear hac hX hM
      replace hS := hid hS
      go_enter Tryz.func11, Tryz.ntmps11
      go_wp2_with fail
      with_reducible refine (l6Good_any (w0 := w0) hm').mono ?_
      rw [hMB.out]
      rintro e w1 ⟨rfl, e1⟩
      have x1 := e1.cell x0
      have e1w : Ext w w1 := Ext.trans inferInstance e1
      have e01 : Ext w0 w1 := Ext.trans ‹Ext w0 w› e1w
      go_wp2_with fail
      with_reducible refine (l6Start_any (w0 := w0) hm' ha' hX').mono ?_
      rw [hS.out]
      rintro e w1' ⟨rfl, e1'⟩
      have x1' := e1'.cell x1
      have e1w' : Ext w w1' := Ext.trans e1w e1'
      have e01' : Ext w0 w1' := Ext.trans ‹Ext w0 w› e1w'
      go_wp2_with fail
      with_reducible refine (l7Optimum_any (w0 := w0) hm' ha' hX' hS.out).mono ?_
      rintro e w2 ⟨rfl, e2⟩
      go_wp2_with fail
      go_ret2
      exact ⟨rfl, Ext.trans e1w' e2⟩

end Go.Proofs.YtkibmjenjgijmaaGreat

