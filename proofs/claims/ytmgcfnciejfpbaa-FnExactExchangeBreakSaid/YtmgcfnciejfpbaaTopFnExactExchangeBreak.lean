/- Several texts in one: the last ones and the statement. -/
import Derived.Test.YtmgcfnciejfpbaaTailFnExactExchangeBreak0
import Derived.Test.YtmgcfnciejfpbaaSrt
import Derived.Deep.RegionHeld3
import Derived.Deep.Cut
import Derived.Test.YtmgcfnciejfpbaaLawC
import Derived.Test.YtmgcfnciejfpbaaSpecA
import Derived.Test.YtmgcfnciejfpbaaWks
import Derived.Test.YtmgcfnciejfpbaaMark
import Derived.Deep.RegionWith
import Derived.Deep.DeepCutAuto
import Derived.ProofKit
import Derived.OpenShut
import Derived.SizedLaws
import Derived.Lib.SmallJoins
import Derived.Deep.Matrix
/- Exchanges between configurations, the reference's. -/
namespace Go.Proofs.Ytmgcfnciejfpbaa
open Go.RowKit

theorem results_tmp4 {fn : Func} {t u v z : Tmp} (h : fn.results = #[.tmp t, .tmp u, .tmp v, .tmp z]) (tmps : Array Value) (P : Program) (w : World) :
    (results fn tmps).run P w = .ok (.tuple #[tmps.getD t undef, tmps.getD u undef, tmps.getD v undef, tmps.getD z undef]) w := by
  simp [results, h]

set_option maxHeartbeats 3200000 in
set_option maxRecDepth 100000 in
theorem l7Exchanges_any {vP vw vx vy : Value} {n k : Nat} {ws x y : List Int} {s : Nat} {w0 w : World} [Ext w0 w] (hP : IsRows w0 vP (confs n k 0)) (hw : IsInts w0 vw ws) (hx : IsInts w0 vx x) (hy : IsInts w0 vy y) (hn : n ≤ 6) (hk : k ≤ 3) (hxc : x ∈ confs n k 0) (hyc : y ∈ confs n k 0) (hs : s < k) (hlw : ws.length = (confs n k 0).length) (hwb : ∀ j, j < (confs n k 0).length → 0 ≤ nth ws j ∧ nth ws j ≤ 1000000) :
    Calls Try.prog 40 #[vP, vw, vx, vy, .int .i64 s] w fun e w' => e = .returned (.bool (exOk (confs n k 0) ws x y s)) ∧ Ext w w' := by
  have hP' := hP
  obtain ⟨aP, cP, rfl, lP⟩ := hP.form
  have hx' := hx
  obtain ⟨dx, mx, rfl, lx⟩ := hx.form
  have hy' := hy
  obtain ⟨dy, my, rfl, ly⟩ := hy.form
  have hw' := hw
  obtain ⟨dw, mw, rfl, lw⟩ := hw.form
  obtain ⟨hxk, _, hxp0⟩ := confs_iff.1 hxc
  obtain ⟨hyk, _, hyp0⟩ := confs_iff.1 hyc
  have hxp : Pts n x := fun z hz => by have := hxp0 z hz; omega
  have hyp : Pts n y := fun z hz => by have := hyp0 z hz; omega
  have hx3 : x.length ≤ 3 := by omega
  have hy3 : y.length ≤ 3 := by omega
  have hsx : s < x.length := by omega
  clear hxp0 hyp0
  have hSwx := hid (show ∀ q r, q < k → 0 ≤ r ∧ r < (n : Int) → sortL (x.set q r) ∈ confs n k 0 from fun q r hq hr => (set_conf hxc hq hr).1)
  have hSwy := hid (show ∀ q r, q < k → 0 ≤ r ∧ r < (n : Int) → sortL (y.set q r) ∈ confs n k 0 from fun q r hq hr => (set_conf hyc hq hr).1)
  have htxl := (atR_lt hxc).1
  have htyl := (atR_lt hyc).1
  replace hxc := hid hxc
  replace hyc := hid hyc
  replace hxk := hid hxk
  replace hyk := hid hyk
  obtain ⟨P, hPd⟩ : ∃ p, p = confs n k 0 := ⟨_, rfl⟩
  rw [← hPd] at hP hP' lP hxc hyc hlw hwb hSwx hSwy htxl htyl ⊢
  replace hPd := hid hPd
  replace hlw := hid hlw
  replace hwb := hid hwb
  have hyes := hid (fun (t : Nat) => @exOk_yes P ws x y s t)
  have hno := hid (@exOk_no P ws x y s)
  obtain ⟨tx, htx0⟩ : ∃ t, t = atR P x := ⟨_, rfl⟩
  obtain ⟨ty, hty0⟩ : ∃ t, t = atR P y := ⟨_, rfl⟩
  rw [← htx0] at htxl hyes hno
  rw [← hty0] at htyl hyes hno
  have htx := hid htx0.symm
  have hty := hid hty0.symm
  clear htx0 hty0
  have htxw : tx < ws.length := by rw [hlw.out]; exact htxl
  have htyw : ty < ws.length := by rw [hlw.out]; exact htyl
  obtain ⟨bw, ow, hdw, hcx⟩ := hw'.at (w' := w) htxw
  cases hdw
  obtain ⟨bw2, ow2, hdw2, hcy⟩ := hw'.at (w' := w) htyw
  cases hdw2
  have hqx := hwb.out tx htxl
  have hqy := hwb.out ty htyl
  obtain ⟨wx, hwx⟩ : ∃ z, z = nth ws tx := ⟨_, rfl⟩
  obtain ⟨wy, hwy⟩ : ∃ z, z = nth ws ty := ⟨_, rfl⟩
  rw [← hwx] at hcx hqx hyes hno
  rw [← hwy] at hcy hqy hyes hno
  replace hwx := hid hwx
  replace hwy := hid hwy
  have hSw := hid (show ∀ u, Ext w u → u.cell? ⟨bw, ow + tx, none⟩ = some (.int .i64 wx) ∧ u.cell? ⟨bw, ow + ty, none⟩ = some (.int .i64 wy) from fun u e => ⟨e.cell hcx, e.cell hcy⟩)
  clear hcx hcy
  have hs0 : IntKind.i64.wrap (wx + wy) = wx + wy := IntWalk.i64_in _ (by omega)
  go_enter Try.func40, Try.ntmps40
  go_wp2_with fail
  refine region_held_from (w0 := w) (S := fun u => u.cell? ⟨bw, ow + tx, none⟩ = some (.int .i64 wx) ∧ u.cell? ⟨bw, ow + ty, none⟩ = some (.int .i64 wy)) (by kernel_rfl) hSw.out (fun wd ed hHeld0 => ?_)
  have e0d : Ext w0 wd := Ext.trans ‹Ext w0 w› ed
  refine wpAnyH_take (i := 0) (v := .slice (some ⟨bw, ow, none⟩) ws.length mw) rfl (by kernel_rfl) (by kernel_rfl) (by kernel_rfl) (fun _ _ _ h => h) (Or.inl ⟨by rfl, by intro wx hx; go_simp⟩) (by assumption) ?_
  try simp only [List.getElem_toArray, List.getElem_cons_zero, Act.put, List.setIfInBounds_toArray, List.set_cons_zero, List.set_cons_succ]
  refine wpAnyH_take (i := 1) (v := .slice aP P.length cP) rfl (by kernel_rfl) (by kernel_rfl) (by kernel_rfl) (fun _ _ _ h => h) (Or.inl ⟨by rfl, by intro wx hx; go_simp⟩) (by assumption) ?_
  try simp only [List.getElem_toArray, List.getElem_cons_succ, List.getElem_cons_zero, Act.put, List.setIfInBounds_toArray, List.set_cons_zero, List.set_cons_succ]
  refine wpAnyH_take (i := 2) (v := .slice dx x.length mx) rfl (by kernel_rfl) (by kernel_rfl) (by kernel_rfl) (fun _ _ _ h => h) (Or.inl ⟨by rfl, by intro wx hx; go_simp⟩) (by assumption) ?_
  try simp only [List.getElem_toArray, List.getElem_cons_succ, List.getElem_cons_zero, Act.put, List.setIfInBounds_toArray, List.set_cons_zero, List.set_cons_succ]
  refine wpAnyH_take (i := 6) (v := .slice (some ⟨bw, ow, none⟩) ws.length mw) rfl (by kernel_rfl) (by kernel_rfl) (by kernel_rfl) (fun _ _ _ h => h) (Or.inl ⟨by rfl, by intro wx hx; go_simp⟩) (by assumption) ?_
  try simp only [List.getElem_toArray, List.getElem_cons_succ, List.getElem_cons_zero, Act.put, List.setIfInBounds_toArray, List.set_cons_zero, List.set_cons_succ]
  refine wpAnyH_take (i := 7) (v := .slice aP P.length cP) rfl (by kernel_rfl) (by kernel_rfl) (by kernel_rfl) (fun _ _ _ h => h) (Or.inl ⟨by rfl, by intro wx hx; go_simp⟩) (by assumption) ?_
  try simp only [List.getElem_toArray, List.getElem_cons_succ, List.getElem_cons_zero, Act.put, List.setIfInBounds_toArray, List.set_cons_zero, List.set_cons_succ]
  refine wpAnyH_take (i := 8) (v := .slice dy y.length my) rfl (by kernel_rfl) (by kernel_rfl) (by kernel_rfl) (fun _ _ _ h => h) (Or.inl ⟨by rfl, by intro wx hx; go_simp⟩) (by assumption) ?_
  try simp only [List.getElem_toArray, List.getElem_cons_succ, List.getElem_cons_zero, Act.put, List.setIfInBounds_toArray, List.set_cons_zero, List.set_cons_succ]
  refine wpAnyH_ready (rs := [3]) (by kernel_rfl) (by simp) ?_
  refine AllReadyH.cons rfl (fun K hK => ?_) AllReadyH.nil
  go_simp
  go_at_call 78
  refine (l7Index_any (w0 := w0) hP' hx' hxc.out).mono ?_
  rw [htx.out]
  rintro e w2 ⟨rfl, e2⟩
  have e2w : Ext w w2 := Ext.trans ed e2
  have e02 : Ext w0 w2 := Ext.trans ‹Ext w0 w› e2w
  have hS2 := hSw.out w2 e2w
  go_wp2_with fail
  refine hK.out _ _ hS2 (fun _ => ?_)
  clear hK K
  try simp only [List.getElem_toArray, List.getElem_cons_succ, List.getElem_cons_zero, Act.put, List.setIfInBounds_toArray, List.set_cons_zero, List.set_cons_succ]
  refine wpAnyH_take (i := 4) (v := .pointer (some ⟨bw, ow + tx, none⟩)) rfl (by kernel_rfl) (by kernel_rfl) (by kernel_rfl) (fun _ _ _ h => h) (Or.inl ⟨by rfl, by intro wx hx; go_simp⟩) (by assumption) ?_
  try simp only [List.getElem_toArray, List.getElem_cons_succ, List.getElem_cons_zero, Act.put, List.setIfInBounds_toArray, List.set_cons_zero, List.set_cons_succ]
  refine wpAnyH_take (i := 5) (v := .int .i64 wx) rfl (by kernel_rfl) (by kernel_rfl) (by kernel_rfl) (fun _ _ _ h => h) (Or.inl ⟨by rfl, by intro wx hx; obtain ⟨_, _⟩ := hx; go_simp⟩) (by assumption) ?_
  try simp only [List.getElem_toArray, List.getElem_cons_succ, List.getElem_cons_zero, Act.put, List.setIfInBounds_toArray, List.set_cons_zero, List.set_cons_succ]
  refine wpAnyH_ready (rs := [9]) (by kernel_rfl) (by simp) ?_
  refine AllReadyH.cons rfl (fun K hK => ?_) AllReadyH.nil
  go_simp
  go_at_call 78
  refine (l7Index_any (w0 := w0) hP' hy' hyc.out).mono ?_
  rw [hty.out]
  rintro e w3 ⟨rfl, e3⟩
  have e3w : Ext w w3 := Ext.trans e2w e3
  have hS3 := hSw.out w3 e3w
  go_wp2_with fail
  refine hK.out _ _ hS3 (fun _ => ?_)
  clear hK K
  try simp only [List.getElem_toArray, List.getElem_cons_succ, List.getElem_cons_zero, Act.put, List.setIfInBounds_toArray, List.set_cons_zero, List.set_cons_succ]
  refine wpAnyH_take (i := 10) (v := .pointer (some ⟨bw, ow + ty, none⟩)) rfl (by kernel_rfl) (by kernel_rfl) (by kernel_rfl) (fun _ _ _ h => h) (Or.inl ⟨by rfl, by intro wx hx; go_simp⟩) (by assumption) ?_
  try simp only [List.getElem_toArray, List.getElem_cons_succ, List.getElem_cons_zero, Act.put, List.setIfInBounds_toArray, List.set_cons_zero, List.set_cons_succ]
  refine wpAnyH_take (i := 11) (v := .int .i64 wy) rfl (by kernel_rfl) (by kernel_rfl) (by kernel_rfl) (fun _ _ _ h => h) (Or.inl ⟨by rfl, by intro wx hx; obtain ⟨_, _⟩ := hx; go_simp⟩) (by assumption) ?_
  try simp only [List.getElem_toArray, List.getElem_cons_succ, List.getElem_cons_zero, Act.put, List.setIfInBounds_toArray, List.set_cons_zero, List.set_cons_succ]
  refine wpAnyH_take (i := 12) (v := .int .i64 (wx + wy)) rfl (by kernel_rfl) (by kernel_rfl) (by kernel_rfl) (fun _ _ _ h => h) (Or.inl ⟨by rfl, by intro wx hx; go_simp⟩) (by assumption) ?_
  try simp only [List.getElem_toArray, List.getElem_cons_succ, List.getElem_cons_zero, Act.put, List.setIfInBounds_toArray, List.set_cons_zero, List.set_cons_succ]
  refine wpAnyH_take (i := 13) (v := .int .i64 (wx + wy)) rfl (by kernel_rfl) (by kernel_rfl) (by kernel_rfl) (fun _ _ _ h => h) (Or.inl ⟨by rfl, by intro wx hx; go_simp⟩) (by assumption) ?_
  try simp only [List.getElem_toArray, List.getElem_cons_succ, List.getElem_cons_zero, Act.put, List.setIfInBounds_toArray, List.set_cons_zero, List.set_cons_succ]
  refine wpAnyH_done (by kernel_rfl) ?_ _
  clear hs0
  obtain ⟨sm, hsm⟩ : ∃ z, z = wx + wy := ⟨_, rfl⟩
  rw [← hsm] at hyes hno ⊢
  have hsb : 0 ≤ sm ∧ sm ≤ 2000000 := by omega
  replace hsm := hid hsm
  go_wp2_with fail
  go_loopw [12] (fun i wr => ∃ t : Nat, t ≤ y.length ∧ i = .int .i64 t ∧ Hid (∀ q, q < t → ¬ exS P ws x y s q ≤ sm) ∧ Ext w wr) (fun i _ => y.length - (intOf i).toNat)
  case atStart => exact ⟨0, by omega, rfl, fun q hq => by omega, e3w⟩
  case round =>
    obtain ⟨t, ht, rfl, hnot, hxw⟩ := hrel
    obtain ⟨wq, rfl⟩ : ∃ z : World, z = wr := ⟨_, rfl⟩
    by_cases hty : t < y.length
    · have htk : t < k := by rw [← hyk.out]; exact hty
      have e0q : Ext w0 wq := Ext.trans ‹Ext w0 w› hxw
      obtain ⟨bY, oY, hdY, hcY⟩ := hy.at (w' := wq) hty
      cases hdY
      obtain ⟨bX, oX, hdX, hcX⟩ := hx.at (w' := wq) hsx
      cases hdX
      have hyr := hyp _ (nth_mem hty)
      have hxr := hxp _ (nth_mem hsx)
      have hm1 := hid (hSwx.out s _ hs hyr)
      have hm2 := hid (hSwy.out t _ htk hxr)
      have ht1 := (atR_lt hm1.out).1
      have ht2 := (atR_lt hm2.out).1
      have hex := hid (show exS P ws x y s t = nth ws (atR P (sortL (x.set s (nth y t)))) + nth ws (atR P (sortL (y.set t (nth x s)))) from rfl)
      have hl1 := hid (show (sortL (x.set s (nth y t))).length = x.length by rw [sortL_len, List.length_set])
      have hl2 := hid (show (sortL (y.set t (nth x s))).length = y.length by rw [sortL_len, List.length_set])
      have hi1 := hid (show ∀ z ∈ sortL (x.set s (nth y t)), I64 z from pts_i64 (n := n) ((hxp.set hyr).perm (sortL_perm _)) (by omega))
      have hi2 := hid (show ∀ z ∈ sortL (y.set t (nth x s)), I64 z from pts_i64 (n := n) ((hyp.set hxr).perm (sortL_perm _)) (by omega))
      have hyi := hid (show I64 (nth y t) by unfold I64; omega)
      have hxi := hid (show I64 (nth x s) by unfold I64; omega)
      obtain ⟨yt, hyt⟩ : ∃ z, z = nth y t := ⟨_, rfl⟩
      obtain ⟨xs, hxs⟩ : ∃ z, z = nth x s := ⟨_, rfl⟩
      rw [← hyt] at hcY hm1 hex hl1 hi1 hyi ht1
      rw [← hxs] at hcX hm2 hex hl2 hi2 hxi ht2
      replace hyt := hid hyt
      replace hxs := hid hxs
      obtain ⟨t1, ht1d⟩ : ∃ z, z = atR P (sortL (x.set s yt)) := ⟨_, rfl⟩
      obtain ⟨t2, ht2d⟩ : ∃ z, z = atR P (sortL (y.set t xs)) := ⟨_, rfl⟩
      rw [← ht1d] at ht1 hex
      rw [← ht2d] at ht2 hex
      have ha1 := hid ht1d.symm
      have ha2 := hid ht2d.symm
      clear ht1d ht2d
      have ht1w : t1 < ws.length := by rw [hlw.out]; exact ht1
      have ht2w : t2 < ws.length := by rw [hlw.out]; exact ht2
      obtain ⟨b1, o1, hd1, hc1⟩ := hw'.at (w' := wq) ht1w
      cases hd1
      obtain ⟨b2, o2, hd2, hc2⟩ := hw'.at (w' := wq) ht2w
      cases hd2
      have hq1 := hwb.out t1 ht1
      have hq2 := hwb.out t2 ht2
      obtain ⟨w1, hw1⟩ : ∃ z, z = nth ws t1 := ⟨_, rfl⟩
      obtain ⟨w2, hw2⟩ : ∃ z, z = nth ws t2 := ⟨_, rfl⟩
      rw [← hw1] at hc1 hq1 hex
      rw [← hw2] at hc2 hq2 hex
      replace hw1 := hid hw1
      replace hw2 := hid hw2
      clear hyr hxr ht1 ht2
      have hSx := hid (show ∀ u, Ext wq u → u.cell? ⟨bY, oY + t, none⟩ = some (.int .i64 yt) ∧ u.cell? ⟨bX, oX + s, none⟩ = some (.int .i64 xs) ∧ u.cell? ⟨bw, ow + t1, none⟩ = some (.int .i64 w1) ∧ u.cell? ⟨bw, ow + t2, none⟩ = some (.int .i64 w2) from fun u e => ⟨e.cell hcY, e.cell hcX, e.cell hc1, e.cell hc2⟩)
      clear hcY hcX hc1 hc2
      have hs1 : IntKind.i64.wrap (w1 + w2) = w1 + w2 := IntWalk.i64_in _ (by omega)
      by_cases hg : w1 + w2 ≤ sm
      · have hr := hid (hyes.out t hty (by rw [hex.out]; exact hg))
        have hgd : decide (w1 + w2 ≤ sm) = true := decide_eq_true hg
        replace hg := hid hg
        go_wp2_with fail
        refine region_held_from (w0 := wq) (S := fun u => u.cell? ⟨bY, oY + t, none⟩ = some (.int .i64 yt) ∧ u.cell? ⟨bX, oX + s, none⟩ = some (.int .i64 xs) ∧ u.cell? ⟨bw, ow + t1, none⟩ = some (.int .i64 w1) ∧ u.cell? ⟨bw, ow + t2, none⟩ = some (.int .i64 w2)) (by kernel_rfl) hSx.out (fun wd ed hHeld0 => ?_)
        have e0d : Ext w0 wd := Ext.trans e0q ed
        refine wpAnyH_take (i := 0) (v := .int .i64 sm) rfl (by kernel_rfl) (by kernel_rfl) (by kernel_rfl) (fun _ _ _ h => h) (Or.inl ⟨by rfl, by intro wx hx; go_simp⟩) (by assumption) ?_
        try simp only [List.getElem_toArray, List.getElem_cons_zero, Act.put, List.setIfInBounds_toArray, List.set_cons_zero, List.set_cons_succ]
        refine wpAnyH_take (i := 1) (v := .slice (some ⟨bw, ow, none⟩) ws.length mw) rfl (by kernel_rfl) (by kernel_rfl) (by kernel_rfl) (fun _ _ _ h => h) (Or.inl ⟨by rfl, by intro wx hx; go_simp⟩) (by assumption) ?_
        try simp only [List.getElem_toArray, List.getElem_cons_succ, List.getElem_cons_zero, Act.put, List.setIfInBounds_toArray, List.set_cons_zero, List.set_cons_succ]
        refine wpAnyH_take (i := 2) (v := .slice aP P.length cP) rfl (by kernel_rfl) (by kernel_rfl) (by kernel_rfl) (fun _ _ _ h => h) (Or.inl ⟨by rfl, by intro wx hx; go_simp⟩) (by assumption) ?_
        try simp only [List.getElem_toArray, List.getElem_cons_succ, List.getElem_cons_zero, Act.put, List.setIfInBounds_toArray, List.set_cons_zero, List.set_cons_succ]
        refine wpAnyH_take (i := 3) (v := .slice (some ⟨bX, oX, none⟩) x.length mx) rfl (by kernel_rfl) (by kernel_rfl) (by kernel_rfl) (fun _ _ _ h => h) (Or.inl ⟨by rfl, by intro wx hx; go_simp⟩) (by assumption) ?_
        try simp only [List.getElem_toArray, List.getElem_cons_succ, List.getElem_cons_zero, Act.put, List.setIfInBounds_toArray, List.set_cons_zero, List.set_cons_succ]
        refine wpAnyH_take (i := 4) (v := .int .i64 s) rfl (by kernel_rfl) (by kernel_rfl) (by kernel_rfl) (fun _ _ _ h => h) (Or.inl ⟨by rfl, by intro wx hx; go_simp⟩) (by assumption) ?_
        try simp only [List.getElem_toArray, List.getElem_cons_succ, List.getElem_cons_zero, Act.put, List.setIfInBounds_toArray, List.set_cons_zero, List.set_cons_succ]
        refine wpAnyH_take (i := 5) (v := .slice (some ⟨bY, oY, none⟩) y.length my) rfl (by kernel_rfl) (by kernel_rfl) (by kernel_rfl) (fun _ _ _ h => h) (Or.inl ⟨by rfl, by intro wx hx; go_simp⟩) (by assumption) ?_
        try simp only [List.getElem_toArray, List.getElem_cons_succ, List.getElem_cons_zero, Act.put, List.setIfInBounds_toArray, List.set_cons_zero, List.set_cons_succ]
        refine wpAnyH_take (i := 6) (v := .int .i64 t) rfl (by kernel_rfl) (by kernel_rfl) (by kernel_rfl) (fun _ _ _ h => h) (Or.inl ⟨by rfl, by intro wx hx; go_simp⟩) (by assumption) ?_
        try simp only [List.getElem_toArray, List.getElem_cons_succ, List.getElem_cons_zero, Act.put, List.setIfInBounds_toArray, List.set_cons_zero, List.set_cons_succ]
        refine wpAnyH_take (i := 7) (v := .pointer (some ⟨bY, oY + t, none⟩)) rfl (by kernel_rfl) (by kernel_rfl) (by kernel_rfl) (fun _ _ _ h => h) (Or.inl ⟨by rfl, by intro wx hx; go_simp⟩) (by assumption) ?_
        try simp only [List.getElem_toArray, List.getElem_cons_succ, List.getElem_cons_zero, Act.put, List.setIfInBounds_toArray, List.set_cons_zero, List.set_cons_succ]
        refine wpAnyH_take (i := 8) (v := .int .i64 yt) rfl (by kernel_rfl) (by kernel_rfl) (by kernel_rfl) (fun _ _ _ h => h) (Or.inl ⟨by rfl, by intro wx hx; obtain ⟨_, _, _, _⟩ := hx; go_simp⟩) (by assumption) ?_
        try simp only [List.getElem_toArray, List.getElem_cons_succ, List.getElem_cons_zero, Act.put, List.setIfInBounds_toArray, List.set_cons_zero, List.set_cons_succ]
        refine wpAnyH_take (i := 13) (v := .slice (some ⟨bw, ow, none⟩) ws.length mw) rfl (by kernel_rfl) (by kernel_rfl) (by kernel_rfl) (fun _ _ _ h => h) (Or.inl ⟨by rfl, by intro wx hx; go_simp⟩) (by assumption) ?_
        try simp only [List.getElem_toArray, List.getElem_cons_succ, List.getElem_cons_zero, Act.put, List.setIfInBounds_toArray, List.set_cons_zero, List.set_cons_succ]
        refine wpAnyH_take (i := 14) (v := .slice aP P.length cP) rfl (by kernel_rfl) (by kernel_rfl) (by kernel_rfl) (fun _ _ _ h => h) (Or.inl ⟨by rfl, by intro wx hx; go_simp⟩) (by assumption) ?_
        try simp only [List.getElem_toArray, List.getElem_cons_succ, List.getElem_cons_zero, Act.put, List.setIfInBounds_toArray, List.set_cons_zero, List.set_cons_succ]
        refine wpAnyH_take (i := 15) (v := .slice (some ⟨bY, oY, none⟩) y.length my) rfl (by kernel_rfl) (by kernel_rfl) (by kernel_rfl) (fun _ _ _ h => h) (Or.inl ⟨by rfl, by intro wx hx; go_simp⟩) (by assumption) ?_
        try simp only [List.getElem_toArray, List.getElem_cons_succ, List.getElem_cons_zero, Act.put, List.setIfInBounds_toArray, List.set_cons_zero, List.set_cons_succ]
        refine wpAnyH_take (i := 16) (v := .int .i64 t) rfl (by kernel_rfl) (by kernel_rfl) (by kernel_rfl) (fun _ _ _ h => h) (Or.inl ⟨by rfl, by intro wx hx; go_simp⟩) (by assumption) ?_
        try simp only [List.getElem_toArray, List.getElem_cons_succ, List.getElem_cons_zero, Act.put, List.setIfInBounds_toArray, List.set_cons_zero, List.set_cons_succ]
        refine wpAnyH_take (i := 17) (v := .slice (some ⟨bX, oX, none⟩) x.length mx) rfl (by kernel_rfl) (by kernel_rfl) (by kernel_rfl) (fun _ _ _ h => h) (Or.inl ⟨by rfl, by intro wx hx; go_simp⟩) (by assumption) ?_
        try simp only [List.getElem_toArray, List.getElem_cons_succ, List.getElem_cons_zero, Act.put, List.setIfInBounds_toArray, List.set_cons_zero, List.set_cons_succ]
        refine wpAnyH_take (i := 18) (v := .int .i64 s) rfl (by kernel_rfl) (by kernel_rfl) (by kernel_rfl) (fun _ _ _ h => h) (Or.inl ⟨by rfl, by intro wx hx; go_simp⟩) (by assumption) ?_
        try simp only [List.getElem_toArray, List.getElem_cons_succ, List.getElem_cons_zero, Act.put, List.setIfInBounds_toArray, List.set_cons_zero, List.set_cons_succ]
        refine wpAnyH_take (i := 19) (v := .pointer (some ⟨bX, oX + s, none⟩)) rfl (by kernel_rfl) (by kernel_rfl) (by kernel_rfl) (fun _ _ _ h => h) (Or.inl ⟨by rfl, by intro wx hx; go_simp⟩) (by assumption) ?_
        try simp only [List.getElem_toArray, List.getElem_cons_succ, List.getElem_cons_zero, Act.put, List.setIfInBounds_toArray, List.set_cons_zero, List.set_cons_succ]
        refine wpAnyH_take (i := 20) (v := .int .i64 xs) rfl (by kernel_rfl) (by kernel_rfl) (by kernel_rfl) (fun _ _ _ h => h) (Or.inl ⟨by rfl, by intro wx hx; obtain ⟨_, _, _, _⟩ := hx; go_simp⟩) (by assumption) ?_
        try simp only [List.getElem_toArray, List.getElem_cons_succ, List.getElem_cons_zero, Act.put, List.setIfInBounds_toArray, List.set_cons_zero, List.set_cons_succ]
        refine wpAnyH_ready (rs := [9]) (by kernel_rfl) (by simp) ?_
        refine AllReadyH.cons rfl (fun K hK => ?_) AllReadyH.nil
        go_simp
        go_at_call 79
        refine (l7Swap_any (w0 := w0) hx' hsx hyi.out (by omega)).mono ?_
        rintro e v5 ⟨u5, rfl, own5, e5⟩
        have e5q : Ext wq v5 := Ext.trans ed e5
        have hU : IsInts v5 u5 (sortL (x.set s yt)) := own5.reads (by unfold Short; rw [hl1.out]; omega) hi1.out
        clear own5
        have hS5 := hSx.out v5 e5q
        go_wp2_with fail
        refine hK.out _ _ hS5 (fun _ => ?_)
        clear hK K
        try simp only [List.getElem_toArray, List.getElem_cons_succ, List.getElem_cons_zero, Act.put, List.setIfInBounds_toArray, List.set_cons_zero, List.set_cons_succ]
        refine wpAnyH_ready (rs := [10]) (by kernel_rfl) (by simp) ?_
        refine AllReadyH.cons rfl (fun K hK => ?_) AllReadyH.nil
        go_simp
        go_at_call 78
        have e05 : Ext w0 v5 := Ext.trans e0q e5q
        refine (l7Index_any (w0 := v5) (w := v5) (hP'.ext (e := e05)) hU hm1.out).mono ?_
        rw [ha1.out]
        rintro e v6 ⟨rfl, e6⟩
        have e6q : Ext wq v6 := Ext.trans e5q e6
        have hS6 := hSx.out v6 e6q
        have e06 : Ext w0 v6 := Ext.trans e0q e6q
        go_wp2_with fail
        refine hK.out _ _ hS6 (fun _ => ?_)
        clear hK K
        try simp only [List.getElem_toArray, List.getElem_cons_succ, List.getElem_cons_zero, Act.put, List.setIfInBounds_toArray, List.set_cons_zero, List.set_cons_succ]
        refine wpAnyH_take (i := 11) (v := .pointer (some ⟨bw, ow + t1, none⟩)) rfl (by kernel_rfl) (by kernel_rfl) (by kernel_rfl) (fun _ _ _ h => h) (Or.inl ⟨by rfl, by intro wx hx; go_simp⟩) (by assumption) ?_
        try simp only [List.getElem_toArray, List.getElem_cons_succ, List.getElem_cons_zero, Act.put, List.setIfInBounds_toArray, List.set_cons_zero, List.set_cons_succ]
        refine wpAnyH_take (i := 12) (v := .int .i64 w1) rfl (by kernel_rfl) (by kernel_rfl) (by kernel_rfl) (fun _ _ _ h => h) (Or.inl ⟨by rfl, by intro wx hx; obtain ⟨_, _, _, _⟩ := hx; go_simp⟩) (by assumption) ?_
        try simp only [List.getElem_toArray, List.getElem_cons_succ, List.getElem_cons_zero, Act.put, List.setIfInBounds_toArray, List.set_cons_zero, List.set_cons_succ]
        refine wpAnyH_ready (rs := [21]) (by kernel_rfl) (by simp) ?_
        refine AllReadyH.cons rfl (fun K hK => ?_) AllReadyH.nil
        go_simp
        go_at_call 79
        refine (l7Swap_any (w0 := w0) hy' hty hxi.out (by omega)).mono ?_
        rintro e v7 ⟨u7, rfl, own7, e7⟩
        have e7q : Ext wq v7 := Ext.trans e6q e7
        have hU7 : IsInts v7 u7 (sortL (y.set t xs)) := own7.reads (by unfold Short; rw [hl2.out]; omega) hi2.out
        clear own7
        have hS7 := hSx.out v7 e7q
        go_wp2_with fail
        refine hK.out _ _ hS7 (fun _ => ?_)
        clear hK K
        try simp only [List.getElem_toArray, List.getElem_cons_succ, List.getElem_cons_zero, Act.put, List.setIfInBounds_toArray, List.set_cons_zero, List.set_cons_succ]
        refine wpAnyH_ready (rs := [22]) (by kernel_rfl) (by simp) ?_
        refine AllReadyH.cons rfl (fun K hK => ?_) AllReadyH.nil
        go_simp
        go_at_call 78
        have e07 : Ext w0 v7 := Ext.trans e0q e7q
        refine (l7Index_any (w0 := v7) (w := v7) (hP'.ext (e := e07)) hU7 hm2.out).mono ?_
        rw [ha2.out]
        rintro e v8 ⟨rfl, e8⟩
        have e8q : Ext wq v8 := Ext.trans e7q e8
        have hS8 := hSx.out v8 e8q
        go_wp2_with fail
        refine hK.out _ _ hS8 (fun _ => ?_)
        clear hK K
        try simp only [List.getElem_toArray, List.getElem_cons_succ, List.getElem_cons_zero, Act.put, List.setIfInBounds_toArray, List.set_cons_zero, List.set_cons_succ]
        refine wpAnyH_take (i := 23) (v := .pointer (some ⟨bw, ow + t2, none⟩)) rfl (by kernel_rfl) (by kernel_rfl) (by kernel_rfl) (fun _ _ _ h => h) (Or.inl ⟨by rfl, by intro wx hx; go_simp⟩) (by assumption) ?_
        try simp only [List.getElem_toArray, List.getElem_cons_succ, List.getElem_cons_zero, Act.put, List.setIfInBounds_toArray, List.set_cons_zero, List.set_cons_succ]
        refine wpAnyH_take (i := 24) (v := .int .i64 w2) rfl (by kernel_rfl) (by kernel_rfl) (by kernel_rfl) (fun _ _ _ h => h) (Or.inl ⟨by rfl, by intro wx hx; obtain ⟨_, _, _, _⟩ := hx; go_simp⟩) (by assumption) ?_
        try simp only [List.getElem_toArray, List.getElem_cons_succ, List.getElem_cons_zero, Act.put, List.setIfInBounds_toArray, List.set_cons_zero, List.set_cons_succ]
        refine wpAnyH_take (i := 25) (v := .int .i64 (w1 + w2)) rfl (by kernel_rfl) (by kernel_rfl) (by kernel_rfl) (fun _ _ _ h => h) (Or.inl ⟨by rfl, by intro wx hx; go_simp⟩) (by assumption) ?_
        try simp only [List.getElem_toArray, List.getElem_cons_succ, List.getElem_cons_zero, Act.put, List.setIfInBounds_toArray, List.set_cons_zero, List.set_cons_succ]
        refine wpAnyH_take (i := 26) (v := .bool true) rfl (by kernel_rfl) (by kernel_rfl) (by kernel_rfl) (fun _ _ _ h => h) (Or.inl ⟨by rfl, by intro wx hx; go_simp⟩) (by assumption) ?_
        try simp only [List.getElem_toArray, List.getElem_cons_succ, List.getElem_cons_zero, Act.put, List.setIfInBounds_toArray, List.set_cons_zero, List.set_cons_succ]
        refine wpAnyH_done (by kernel_rfl) ?_ _
        go_wp2_with fail
        go_ret
        exact ⟨ret_bool hr.out.symm, Ext.trans hxw e8q⟩
      · have hnot2 := hid (show ∀ q, q < t + 1 → ¬ exS P ws x y s q ≤ sm from fun q hq => by
          by_cases e : q = t
          · rw [e, hex.out]; exact hg
          · exact hnot.out q (by omega))
        have hgd : decide (w1 + w2 ≤ sm) = false := decide_eq_false hg
        replace hg := hid hg
        go_wp2_with fail
        refine region_held_from (w0 := wq) (S := fun u => u.cell? ⟨bY, oY + t, none⟩ = some (.int .i64 yt) ∧ u.cell? ⟨bX, oX + s, none⟩ = some (.int .i64 xs) ∧ u.cell? ⟨bw, ow + t1, none⟩ = some (.int .i64 w1) ∧ u.cell? ⟨bw, ow + t2, none⟩ = some (.int .i64 w2)) (by kernel_rfl) hSx.out (fun wd ed hHeld0 => ?_)
        have e0d : Ext w0 wd := Ext.trans e0q ed
        refine wpAnyH_take (i := 0) (v := .int .i64 sm) rfl (by kernel_rfl) (by kernel_rfl) (by kernel_rfl) (fun _ _ _ h => h) (Or.inl ⟨by rfl, by intro wx hx; go_simp⟩) (by assumption) ?_
        try simp only [List.getElem_toArray, List.getElem_cons_zero, Act.put, List.setIfInBounds_toArray, List.set_cons_zero, List.set_cons_succ]
        refine wpAnyH_take (i := 1) (v := .slice (some ⟨bw, ow, none⟩) ws.length mw) rfl (by kernel_rfl) (by kernel_rfl) (by kernel_rfl) (fun _ _ _ h => h) (Or.inl ⟨by rfl, by intro wx hx; go_simp⟩) (by assumption) ?_
        try simp only [List.getElem_toArray, List.getElem_cons_succ, List.getElem_cons_zero, Act.put, List.setIfInBounds_toArray, List.set_cons_zero, List.set_cons_succ]
        refine wpAnyH_take (i := 2) (v := .slice aP P.length cP) rfl (by kernel_rfl) (by kernel_rfl) (by kernel_rfl) (fun _ _ _ h => h) (Or.inl ⟨by rfl, by intro wx hx; go_simp⟩) (by assumption) ?_
        try simp only [List.getElem_toArray, List.getElem_cons_succ, List.getElem_cons_zero, Act.put, List.setIfInBounds_toArray, List.set_cons_zero, List.set_cons_succ]
        refine wpAnyH_take (i := 3) (v := .slice (some ⟨bX, oX, none⟩) x.length mx) rfl (by kernel_rfl) (by kernel_rfl) (by kernel_rfl) (fun _ _ _ h => h) (Or.inl ⟨by rfl, by intro wx hx; go_simp⟩) (by assumption) ?_
        try simp only [List.getElem_toArray, List.getElem_cons_succ, List.getElem_cons_zero, Act.put, List.setIfInBounds_toArray, List.set_cons_zero, List.set_cons_succ]
        refine wpAnyH_take (i := 4) (v := .int .i64 s) rfl (by kernel_rfl) (by kernel_rfl) (by kernel_rfl) (fun _ _ _ h => h) (Or.inl ⟨by rfl, by intro wx hx; go_simp⟩) (by assumption) ?_
        try simp only [List.getElem_toArray, List.getElem_cons_succ, List.getElem_cons_zero, Act.put, List.setIfInBounds_toArray, List.set_cons_zero, List.set_cons_succ]
        refine wpAnyH_take (i := 5) (v := .slice (some ⟨bY, oY, none⟩) y.length my) rfl (by kernel_rfl) (by kernel_rfl) (by kernel_rfl) (fun _ _ _ h => h) (Or.inl ⟨by rfl, by intro wx hx; go_simp⟩) (by assumption) ?_
        try simp only [List.getElem_toArray, List.getElem_cons_succ, List.getElem_cons_zero, Act.put, List.setIfInBounds_toArray, List.set_cons_zero, List.set_cons_succ]
        refine wpAnyH_take (i := 6) (v := .int .i64 t) rfl (by kernel_rfl) (by kernel_rfl) (by kernel_rfl) (fun _ _ _ h => h) (Or.inl ⟨by rfl, by intro wx hx; go_simp⟩) (by assumption) ?_
        try simp only [List.getElem_toArray, List.getElem_cons_succ, List.getElem_cons_zero, Act.put, List.setIfInBounds_toArray, List.set_cons_zero, List.set_cons_succ]
        refine wpAnyH_take (i := 7) (v := .pointer (some ⟨bY, oY + t, none⟩)) rfl (by kernel_rfl) (by kernel_rfl) (by kernel_rfl) (fun _ _ _ h => h) (Or.inl ⟨by rfl, by intro wx hx; go_simp⟩) (by assumption) ?_
        try simp only [List.getElem_toArray, List.getElem_cons_succ, List.getElem_cons_zero, Act.put, List.setIfInBounds_toArray, List.set_cons_zero, List.set_cons_succ]
        refine wpAnyH_take (i := 8) (v := .int .i64 yt) rfl (by kernel_rfl) (by kernel_rfl) (by kernel_rfl) (fun _ _ _ h => h) (Or.inl ⟨by rfl, by intro wx hx; obtain ⟨_, _, _, _⟩ := hx; go_simp⟩) (by assumption) ?_
        try simp only [List.getElem_toArray, List.getElem_cons_succ, List.getElem_cons_zero, Act.put, List.setIfInBounds_toArray, List.set_cons_zero, List.set_cons_succ]
        refine wpAnyH_take (i := 13) (v := .slice (some ⟨bw, ow, none⟩) ws.length mw) rfl (by kernel_rfl) (by kernel_rfl) (by kernel_rfl) (fun _ _ _ h => h) (Or.inl ⟨by rfl, by intro wx hx; go_simp⟩) (by assumption) ?_
        try simp only [List.getElem_toArray, List.getElem_cons_succ, List.getElem_cons_zero, Act.put, List.setIfInBounds_toArray, List.set_cons_zero, List.set_cons_succ]
        refine wpAnyH_take (i := 14) (v := .slice aP P.length cP) rfl (by kernel_rfl) (by kernel_rfl) (by kernel_rfl) (fun _ _ _ h => h) (Or.inl ⟨by rfl, by intro wx hx; go_simp⟩) (by assumption) ?_
        try simp only [List.getElem_toArray, List.getElem_cons_succ, List.getElem_cons_zero, Act.put, List.setIfInBounds_toArray, List.set_cons_zero, List.set_cons_succ]
        refine wpAnyH_take (i := 15) (v := .slice (some ⟨bY, oY, none⟩) y.length my) rfl (by kernel_rfl) (by kernel_rfl) (by kernel_rfl) (fun _ _ _ h => h) (Or.inl ⟨by rfl, by intro wx hx; go_simp⟩) (by assumption) ?_
        try simp only [List.getElem_toArray, List.getElem_cons_succ, List.getElem_cons_zero, Act.put, List.setIfInBounds_toArray, List.set_cons_zero, List.set_cons_succ]
        refine wpAnyH_take (i := 16) (v := .int .i64 t) rfl (by kernel_rfl) (by kernel_rfl) (by kernel_rfl) (fun _ _ _ h => h) (Or.inl ⟨by rfl, by intro wx hx; go_simp⟩) (by assumption) ?_
        try simp only [List.getElem_toArray, List.getElem_cons_succ, List.getElem_cons_zero, Act.put, List.setIfInBounds_toArray, List.set_cons_zero, List.set_cons_succ]
        refine wpAnyH_take (i := 17) (v := .slice (some ⟨bX, oX, none⟩) x.length mx) rfl (by kernel_rfl) (by kernel_rfl) (by kernel_rfl) (fun _ _ _ h => h) (Or.inl ⟨by rfl, by intro wx hx; go_simp⟩) (by assumption) ?_
        try simp only [List.getElem_toArray, List.getElem_cons_succ, List.getElem_cons_zero, Act.put, List.setIfInBounds_toArray, List.set_cons_zero, List.set_cons_succ]
        refine wpAnyH_take (i := 18) (v := .int .i64 s) rfl (by kernel_rfl) (by kernel_rfl) (by kernel_rfl) (fun _ _ _ h => h) (Or.inl ⟨by rfl, by intro wx hx; go_simp⟩) (by assumption) ?_
        try simp only [List.getElem_toArray, List.getElem_cons_succ, List.getElem_cons_zero, Act.put, List.setIfInBounds_toArray, List.set_cons_zero, List.set_cons_succ]
        refine wpAnyH_take (i := 19) (v := .pointer (some ⟨bX, oX + s, none⟩)) rfl (by kernel_rfl) (by kernel_rfl) (by kernel_rfl) (fun _ _ _ h => h) (Or.inl ⟨by rfl, by intro wx hx; go_simp⟩) (by assumption) ?_
        try simp only [List.getElem_toArray, List.getElem_cons_succ, List.getElem_cons_zero, Act.put, List.setIfInBounds_toArray, List.set_cons_zero, List.set_cons_succ]
        refine wpAnyH_take (i := 20) (v := .int .i64 xs) rfl (by kernel_rfl) (by kernel_rfl) (by kernel_rfl) (fun _ _ _ h => h) (Or.inl ⟨by rfl, by intro wx hx; obtain ⟨_, _, _, _⟩ := hx; go_simp⟩) (by assumption) ?_
        try simp only [List.getElem_toArray, List.getElem_cons_succ, List.getElem_cons_zero, Act.put, List.setIfInBounds_toArray, List.set_cons_zero, List.set_cons_succ]
        refine wpAnyH_ready (rs := [9]) (by kernel_rfl) (by simp) ?_
        refine AllReadyH.cons rfl (fun K hK => ?_) AllReadyH.nil
        go_simp
        go_at_call 79
        refine (l7Swap_any (w0 := w0) hx' hsx hyi.out (by omega)).mono ?_
        rintro e v5 ⟨u5, rfl, own5, e5⟩
        have e5q : Ext wq v5 := Ext.trans ed e5
        have hU : IsInts v5 u5 (sortL (x.set s yt)) := own5.reads (by unfold Short; rw [hl1.out]; omega) hi1.out
        clear own5
        have hS5 := hSx.out v5 e5q
        go_wp2_with fail
        refine hK.out _ _ hS5 (fun _ => ?_)
        clear hK K
        try simp only [List.getElem_toArray, List.getElem_cons_succ, List.getElem_cons_zero, Act.put, List.setIfInBounds_toArray, List.set_cons_zero, List.set_cons_succ]
        refine wpAnyH_ready (rs := [10]) (by kernel_rfl) (by simp) ?_
        refine AllReadyH.cons rfl (fun K hK => ?_) AllReadyH.nil
        go_simp
        go_at_call 78
        have e05 : Ext w0 v5 := Ext.trans e0q e5q
        refine (l7Index_any (w0 := v5) (w := v5) (hP'.ext (e := e05)) hU hm1.out).mono ?_
        rw [ha1.out]
        rintro e v6 ⟨rfl, e6⟩
        have e6q : Ext wq v6 := Ext.trans e5q e6
        have hS6 := hSx.out v6 e6q
        have e06 : Ext w0 v6 := Ext.trans e0q e6q
        go_wp2_with fail
        refine hK.out _ _ hS6 (fun _ => ?_)
        clear hK K
        try simp only [List.getElem_toArray, List.getElem_cons_succ, List.getElem_cons_zero, Act.put, List.setIfInBounds_toArray, List.set_cons_zero, List.set_cons_succ]
        refine wpAnyH_take (i := 11) (v := .pointer (some ⟨bw, ow + t1, none⟩)) rfl (by kernel_rfl) (by kernel_rfl) (by kernel_rfl) (fun _ _ _ h => h) (Or.inl ⟨by rfl, by intro wx hx; go_simp⟩) (by assumption) ?_
        try simp only [List.getElem_toArray, List.getElem_cons_succ, List.getElem_cons_zero, Act.put, List.setIfInBounds_toArray, List.set_cons_zero, List.set_cons_succ]
        refine wpAnyH_take (i := 12) (v := .int .i64 w1) rfl (by kernel_rfl) (by kernel_rfl) (by kernel_rfl) (fun _ _ _ h => h) (Or.inl ⟨by rfl, by intro wx hx; obtain ⟨_, _, _, _⟩ := hx; go_simp⟩) (by assumption) ?_
        try simp only [List.getElem_toArray, List.getElem_cons_succ, List.getElem_cons_zero, Act.put, List.setIfInBounds_toArray, List.set_cons_zero, List.set_cons_succ]
        refine wpAnyH_ready (rs := [21]) (by kernel_rfl) (by simp) ?_
        refine AllReadyH.cons rfl (fun K hK => ?_) AllReadyH.nil
        go_simp
        go_at_call 79
        refine (l7Swap_any (w0 := w0) hy' hty hxi.out (by omega)).mono ?_
        rintro e v7 ⟨u7, rfl, own7, e7⟩
        have e7q : Ext wq v7 := Ext.trans e6q e7
        have hU7 : IsInts v7 u7 (sortL (y.set t xs)) := own7.reads (by unfold Short; rw [hl2.out]; omega) hi2.out
        clear own7
        have hS7 := hSx.out v7 e7q
        go_wp2_with fail
        refine hK.out _ _ hS7 (fun _ => ?_)
        clear hK K
        try simp only [List.getElem_toArray, List.getElem_cons_succ, List.getElem_cons_zero, Act.put, List.setIfInBounds_toArray, List.set_cons_zero, List.set_cons_succ]
        refine wpAnyH_ready (rs := [22]) (by kernel_rfl) (by simp) ?_
        refine AllReadyH.cons rfl (fun K hK => ?_) AllReadyH.nil
        go_simp
        go_at_call 78
        have e07 : Ext w0 v7 := Ext.trans e0q e7q
        refine (l7Index_any (w0 := v7) (w := v7) (hP'.ext (e := e07)) hU7 hm2.out).mono ?_
        rw [ha2.out]
        rintro e v8 ⟨rfl, e8⟩
        have e8q : Ext wq v8 := Ext.trans e7q e8
        have hS8 := hSx.out v8 e8q
        go_wp2_with fail
        refine hK.out _ _ hS8 (fun _ => ?_)
        clear hK K
        try simp only [List.getElem_toArray, List.getElem_cons_succ, List.getElem_cons_zero, Act.put, List.setIfInBounds_toArray, List.set_cons_zero, List.set_cons_succ]
        refine wpAnyH_take (i := 23) (v := .pointer (some ⟨bw, ow + t2, none⟩)) rfl (by kernel_rfl) (by kernel_rfl) (by kernel_rfl) (fun _ _ _ h => h) (Or.inl ⟨by rfl, by intro wx hx; go_simp⟩) (by assumption) ?_
        try simp only [List.getElem_toArray, List.getElem_cons_succ, List.getElem_cons_zero, Act.put, List.setIfInBounds_toArray, List.set_cons_zero, List.set_cons_succ]
        refine wpAnyH_take (i := 24) (v := .int .i64 w2) rfl (by kernel_rfl) (by kernel_rfl) (by kernel_rfl) (fun _ _ _ h => h) (Or.inl ⟨by rfl, by intro wx hx; obtain ⟨_, _, _, _⟩ := hx; go_simp⟩) (by assumption) ?_
        try simp only [List.getElem_toArray, List.getElem_cons_succ, List.getElem_cons_zero, Act.put, List.setIfInBounds_toArray, List.set_cons_zero, List.set_cons_succ]
        refine wpAnyH_take (i := 25) (v := .int .i64 (w1 + w2)) rfl (by kernel_rfl) (by kernel_rfl) (by kernel_rfl) (fun _ _ _ h => h) (Or.inl ⟨by rfl, by intro wx hx; go_simp⟩) (by assumption) ?_
        try simp only [List.getElem_toArray, List.getElem_cons_succ, List.getElem_cons_zero, Act.put, List.setIfInBounds_toArray, List.set_cons_zero, List.set_cons_succ]
        refine wpAnyH_take (i := 26) (v := .bool false) rfl (by kernel_rfl) (by kernel_rfl) (by kernel_rfl) (fun _ _ _ h => h) (Or.inl ⟨by rfl, by intro wx hx; go_simp⟩) (by assumption) ?_
        try simp only [List.getElem_toArray, List.getElem_cons_succ, List.getElem_cons_zero, Act.put, List.setIfInBounds_toArray, List.set_cons_zero, List.set_cons_succ]
        refine wpAnyH_done (by kernel_rfl) ?_ _
        go_wp2_with fail
        go_roundw
        case rel => exact ⟨t + 1, by omega, by go_num, hid (fun q hq => by have := hnot2.out q hq; omega), Ext.trans hxw e8q⟩
        case measure => simp [intOf]; omega
    · have hr := hid (hno.out fun q hq => by have := hnot.out q (by omega); omega)
      go_wp2_with fail
      go_ret
      exact ⟨ret_bool hr.out.symm, hxw⟩
end Go.Proofs.Ytmgcfnciejfpbaa

/- The first break of the exchanges, the reference's. -/
namespace Go.Proofs.Ytmgcfnciejfpbaa
open Go.RowKit

theorem giv0 {M : List (List Int)} {k : Int} {ws : List Int} : givB M k ws 0 = (metB M && (inB k 1 3 && workB M (confs M.length k.toNat 0) ws)) := by
  cases hM : metB M with
  | false => simp [givB, askB, hM]
  | true =>
    have := met_len hM
    have h : inB 0 0 ((M.length : Int) - 1) = true := inB_true.2 (by omega)
    simp [givB, askB, hM, h]

set_option maxHeartbeats 3200000 in
set_option maxRecDepth 100000 in
theorem specExb_any {v vw : Value} {M : List (List Int)} {ws : List Int} {k : Int} {w0 w : World} [Ext w0 w] (hm : IsMet w0 v M) (_hk : I64 k) (hw : IsInts w0 vw ws) :
    Calls Try.prog 7 #[v, .int .i64 k, vw] w fun e w' => ∃ d0 m0 d1 m1, e = .returned (.tuple #[.slice d0 (exbX M k ws).length m0, .slice d1 (exbY M k ws).length m1, .int .i64 (exbP M k ws), .bool (exbB M k ws)]) ∧ IsInts w' (.slice d0 (exbX M k ws).length m0) (exbX M k ws) ∧ IsInts w' (.slice d1 (exbY M k ws).length m1) (exbY M k ws) ∧ Ext w w' := by
  have hm' := hm
  obtain ⟨v1, rfl, hR⟩ := hm
  obtain ⟨a1, c1, rfl, l1⟩ := hR.form
  have hw' := hw
  obtain ⟨dw, mw, rfl, lw⟩ := hw.form
  have x0 : (w.alloc (.cells #[.slice a1 M.length c1] 29)).cell? ⟨w.heap.size, 0, none⟩ = some (.slice a1 M.length c1) := by go_simp
  cases hG : givB M k ws 0 with
  | false =>
    have hr := hid (exb_none (show exbO M k ws = none by rw [exbO, ← giv0, hG]; rfl))
    replace hG := hid hG
    go_enter Try.func7, Try.ntmps7
    go_wp2_with fail
    with_reducible refine (l7Given_any (w0 := w0) hm' hw').mono ?_
    rw [hG.out]
    rintro e w1 ⟨rfl, e1⟩
    go_wp2_with fail
    (try simp only [Exit.inBlock, Exit.then]); refine bodyPost_ret (results_tmp4 rfl _ _ _) rfl ?_
    rw [hr.out.1, hr.out.2.1, hr.out.2.2.1, hr.out.2.2.2]
    exact ⟨_, _, _, _, rfl, isInts_zero _ _ _, isInts_zero _ _ _, Ext.trans inferInstance (Ext.trans e1 inferInstance)⟩
  | true =>
    obtain ⟨hM, hk, _, hwb⟩ := giv_parts hG
    obtain ⟨kn, rfl⟩ := Int.eq_ofNat_of_zero_le (show 0 ≤ k by omega)
    rw [Int.toNat_natCast] at hwb
    have hkn : kn ≤ 3 := by omega
    have hk1n : 1 ≤ kn := by omega
    have hg := hid (work_good hwb)
    have hO := hid (show exbO M kn ws = exR (confs M.length kn 0) ws kn by rw [exbO, ← giv0, hG, Int.toNat_natCast]; rfl)
    have hexs := hid (fun (i j s : Nat) => @exb_some M kn ws i j s)
    have hexn := hid (@exb_none M kn ws)
    rw [Int.toNat_natCast] at hexs
    have hMl := met_len hM
    have h216 := confs_216 hMl.2 hkn
    have hPm := hid (show ∀ i, i < (confs M.length kn 0).length → (row (confs M.length kn 0) i).length = kn ∧ ∀ z ∈ row (confs M.length kn 0) i, I64 z from fun i hi => by
      obtain ⟨h1, h2, _⟩ := row_conf hi
      exact ⟨h1, pts_i64 h2 (by omega)⟩)
    have hlwc := hid hg.out.1.1
    have hwbc := hid (show ∀ j, j < (confs M.length kn 0).length → 0 ≤ nth ws j ∧ nth ws j ≤ 1000000 from fun j hj => by have := hg.out.2 j hj; omega)
    clear hM hwb
    replace hG := hid hG
    go_enter Try.func7, Try.ntmps7
    go_wp2_with fail
    with_reducible refine (l7Given_any (w0 := w0) hm' hw').mono ?_
    rw [hG.out]
    rintro e w1 ⟨rfl, e1⟩
    have x1 := e1.cell x0
    have e1w : Ext w w1 := Ext.trans inferInstance e1
    clear x0 e1
    go_wp2_with fail
    refine (l6Configs_any (n := M.length) (k := kn) hMl.2 hkn _).mono ?_
    rintro e wP ⟨vP, rfl, hP, eP⟩
    have ePw : Ext w wP := Ext.trans e1w eP
    have e0P : Ext w0 wP := Ext.trans ‹Ext w0 w› ePw
    clear x1 eP
    obtain ⟨P, hPd⟩ : ∃ p, p = confs M.length kn 0 := ⟨_, rfl⟩
    rw [← hPd] at hP hPm h216 hO hexs
    have hhit := hid (fun (i j s : Nat) => @exR_hit P ws kn i j s)
    have hmiss := hid (@exR_miss P ws kn)
    replace hPd := hid hPd
    have hP' := hP
    obtain ⟨aP, cP, rfl, lP⟩ := hP.form
    go_wp2_with fail
    go_loopw [11] (fun i wr => ∃ q : Nat, q ≤ P.length ∧ i = .int .i64 q ∧ Hid (∀ z, z < q → exS1 P ws kn z = none) ∧ Ext wP wr) (fun i _ => P.length - (intOf i).toNat)
    case atStart => exact ⟨0, by omega, rfl, fun z hz => by omega, Ext.refl _⟩
    case round =>
      obtain ⟨i, hi, rfl, hno1, hx1⟩ := hrel
      obtain ⟨wo, rfl⟩ : ∃ z : World, z = wr := ⟨_, rfl⟩
      by_cases hlti : i < P.length
      · go_wp2_with fail
        go_loopw [12] (fun i' wr => ∃ q : Nat, q ≤ P.length ∧ i' = .int .i64 q ∧ Hid (∀ z, z < q → exS2 P ws kn i z = none) ∧ Ext wP wr) (fun i' _ => P.length - (intOf i').toNat)
        case atStart => exact ⟨0, by omega, rfl, fun z hz => by omega, hx1⟩
        case round =>
          obtain ⟨j, hj, rfl, hno2, hx2⟩ := hrel
          obtain ⟨wp, rfl⟩ : ∃ z : World, z = wr := ⟨_, rfl⟩
          by_cases hltj : j < P.length
          · go_wp2_with fail
            go_loopw [13] (fun i' wr => ∃ q : Nat, q ≤ kn ∧ i' = .int .i64 q ∧ Hid (∀ z, z < q → exS3 P ws i j z = none) ∧ Ext wP wr) (fun i' _ => kn - (intOf i').toNat)
            case atStart => exact ⟨0, by omega, rfl, fun z hz => by omega, hx2⟩
            case round =>
              obtain ⟨s, hs, rfl, hno3, hx3⟩ := hrel
              obtain ⟨wq, rfl⟩ : ∃ z : World, z = wr := ⟨_, rfl⟩
              by_cases hlts : s < kn
              · have eq := hx3
                have e0q : Ext w0 wq := Ext.trans e0P eq
                obtain ⟨bP, oP, d1, m1, hdP, hc1, hi1, _⟩ := hP.at (w' := wP) hlti
                cases hdP
                obtain ⟨bP2, oP2, d2, m2, hdP2, hc2, hi2, _⟩ := hP.at (w' := wP) hltj
                cases hdP2
                have hxc := hid (show row P i ∈ confs M.length kn 0 by rw [← hPd.out]; exact row_mem hlti)
                have hyc := hid (show row P j ∈ confs M.length kn 0 by rw [← hPd.out]; exact row_mem hltj)
                have hxl := (hPm.out i hlti)
                have hyl := (hPm.out j hltj)
                have hsx : s < (row P i).length := by rw [hxl.1]; exact hlts
                obtain ⟨bx1, ox1, hdx, hcs⟩ := hi1.at (w' := wP) hsx
                cases hdx
                have hSx := hid (show ∀ u, Ext wq u → u.cell? ⟨bP, oP + i, none⟩ = some (.slice (some ⟨bx1, ox1, none⟩) (row P i).length m1) ∧ u.cell? ⟨bP, oP + j, none⟩ = some (.slice d2 (row P j).length m2) from fun u e => ⟨(Ext.trans eq e).cell hc1, (Ext.trans eq e).cell hc2⟩)
                cases hok0 : exOk (confs M.length kn 0) ws (row P i) (row P j) s with
                | true =>
                  have hok := hid hok0
                  have hno4 := hid (show ∀ z, z < s + 1 → exS3 P ws i j z = none from fun z hz => by
                    by_cases e : z = s
                    · rw [e]; exact exS3_ok (by rw [hPd.out]; rw [hPd.out] at hok0; exact hok0)
                    · exact hno3.out z (by omega))
                  clear hok0
                  replace hxl := hid hxl
                  replace hyl := hid hyl
                  obtain ⟨x, hxd⟩ : ∃ z, z = row P i := ⟨_, rfl⟩
                  obtain ⟨y, hyd⟩ : ∃ z, z = row P j := ⟨_, rfl⟩
                  rw [← hxd] at hc1 hi1 hxc hSx hok hsx hcs hxl
                  rw [← hyd] at hc2 hi2 hyc hSx hok hyl
                  replace hxd := hid hxd
                  replace hyd := hid hyd
                  go_wp2_with fail
                  refine region_held_from (w0 := wq) (S := fun u => u.cell? ⟨bP, oP + i, none⟩ = some (.slice (some ⟨bx1, ox1, none⟩) x.length m1) ∧ u.cell? ⟨bP, oP + j, none⟩ = some (.slice d2 y.length m2)) (by kernel_rfl) hSx.out (fun wd ed hHeld0 => ?_)
                  have ePd : Ext wP wd := Ext.trans eq ed
                  refine wpAnyH_take (i := 0) (v := .slice (some ⟨bP, oP, none⟩) P.length cP) rfl (by kernel_rfl) (by kernel_rfl) (by kernel_rfl) (fun _ _ _ h => h) (Or.inl ⟨by rfl, by intro wx hx; go_simp⟩) (by assumption) ?_
                  try simp only [List.getElem_toArray, List.getElem_cons_zero, Act.put, List.setIfInBounds_toArray, List.set_cons_zero, List.set_cons_succ]
                  refine wpAnyH_take (i := 1) (v := .slice dw ws.length mw) rfl (by kernel_rfl) (by kernel_rfl) (by kernel_rfl) (fun _ _ _ h => h) (Or.inl ⟨by rfl, by intro wx hx; go_simp⟩) (by assumption) ?_
                  try simp only [List.getElem_toArray, List.getElem_cons_succ, List.getElem_cons_zero, Act.put, List.setIfInBounds_toArray, List.set_cons_zero, List.set_cons_succ]
                  refine wpAnyH_take (i := 2) (v := .slice (some ⟨bP, oP, none⟩) P.length cP) rfl (by kernel_rfl) (by kernel_rfl) (by kernel_rfl) (fun _ _ _ h => h) (Or.inl ⟨by rfl, by intro wx hx; go_simp⟩) (by assumption) ?_
                  try simp only [List.getElem_toArray, List.getElem_cons_succ, List.getElem_cons_zero, Act.put, List.setIfInBounds_toArray, List.set_cons_zero, List.set_cons_succ]
                  refine wpAnyH_take (i := 3) (v := .int .i64 i) rfl (by kernel_rfl) (by kernel_rfl) (by kernel_rfl) (fun _ _ _ h => h) (Or.inl ⟨by rfl, by intro wx hx; go_simp⟩) (by assumption) ?_
                  try simp only [List.getElem_toArray, List.getElem_cons_succ, List.getElem_cons_zero, Act.put, List.setIfInBounds_toArray, List.set_cons_zero, List.set_cons_succ]
                  refine wpAnyH_take (i := 4) (v := .pointer (some ⟨bP, oP + i, none⟩)) rfl (by kernel_rfl) (by kernel_rfl) (by kernel_rfl) (fun _ _ _ h => h) (Or.inl ⟨by rfl, by intro wx hx; go_simp⟩) (by assumption) ?_
                  try simp only [List.getElem_toArray, List.getElem_cons_succ, List.getElem_cons_zero, Act.put, List.setIfInBounds_toArray, List.set_cons_zero, List.set_cons_succ]
                  refine wpAnyH_take (i := 5) (v := .slice (some ⟨bx1, ox1, none⟩) x.length m1) rfl (by kernel_rfl) (by kernel_rfl) (by kernel_rfl) (fun _ _ _ h => h) (Or.inl ⟨by rfl, by intro wx hx; obtain ⟨_, _⟩ := hx; go_simp⟩) (by assumption) ?_
                  try simp only [List.getElem_toArray, List.getElem_cons_succ, List.getElem_cons_zero, Act.put, List.setIfInBounds_toArray, List.set_cons_zero, List.set_cons_succ]
                  refine wpAnyH_take (i := 6) (v := .slice (some ⟨bP, oP, none⟩) P.length cP) rfl (by kernel_rfl) (by kernel_rfl) (by kernel_rfl) (fun _ _ _ h => h) (Or.inl ⟨by rfl, by intro wx hx; go_simp⟩) (by assumption) ?_
                  try simp only [List.getElem_toArray, List.getElem_cons_succ, List.getElem_cons_zero, Act.put, List.setIfInBounds_toArray, List.set_cons_zero, List.set_cons_succ]
                  refine wpAnyH_take (i := 7) (v := .int .i64 j) rfl (by kernel_rfl) (by kernel_rfl) (by kernel_rfl) (fun _ _ _ h => h) (Or.inl ⟨by rfl, by intro wx hx; go_simp⟩) (by assumption) ?_
                  try simp only [List.getElem_toArray, List.getElem_cons_succ, List.getElem_cons_zero, Act.put, List.setIfInBounds_toArray, List.set_cons_zero, List.set_cons_succ]
                  refine wpAnyH_take (i := 8) (v := .pointer (some ⟨bP, oP + j, none⟩)) rfl (by kernel_rfl) (by kernel_rfl) (by kernel_rfl) (fun _ _ _ h => h) (Or.inl ⟨by rfl, by intro wx hx; go_simp⟩) (by assumption) ?_
                  try simp only [List.getElem_toArray, List.getElem_cons_succ, List.getElem_cons_zero, Act.put, List.setIfInBounds_toArray, List.set_cons_zero, List.set_cons_succ]
                  refine wpAnyH_take (i := 9) (v := .slice d2 y.length m2) rfl (by kernel_rfl) (by kernel_rfl) (by kernel_rfl) (fun _ _ _ h => h) (Or.inl ⟨by rfl, by intro wx hx; obtain ⟨_, _⟩ := hx; go_simp⟩) (by assumption) ?_
                  try simp only [List.getElem_toArray, List.getElem_cons_succ, List.getElem_cons_zero, Act.put, List.setIfInBounds_toArray, List.set_cons_zero, List.set_cons_succ]
                  refine wpAnyH_take (i := 10) (v := .int .i64 s) rfl (by kernel_rfl) (by kernel_rfl) (by kernel_rfl) (fun _ _ _ h => h) (Or.inl ⟨by rfl, by intro wx hx; go_simp⟩) (by assumption) ?_
                  try simp only [List.getElem_toArray, List.getElem_cons_succ, List.getElem_cons_zero, Act.put, List.setIfInBounds_toArray, List.set_cons_zero, List.set_cons_succ]
                  refine wpAnyH_ready (rs := [11]) (by kernel_rfl) (by simp) ?_
                  refine AllReadyH.cons rfl (fun K hK => ?_) AllReadyH.nil
                  go_simp
                  go_at_call 40
                  refine (l7Exchanges_any (n := M.length) (k := kn) (w0 := wP) (by rw [← hPd.out]; exact hP') (hw'.ext (e := e0P)) hi1 hi2 hMl.2 hkn hxc.out hyc.out hlts hlwc.out hwbc.out).mono ?_
                  rw [hok.out]
                  rintro e w5 ⟨rfl, e5⟩
                  have e5q : Ext wq w5 := Ext.trans ed e5
                  have hS5 := hSx.out w5 e5q
                  go_wp2_with fail
                  refine hK.out _ _ hS5 (fun _ => ?_)
                  clear hK K
                  try simp only [List.getElem_toArray, List.getElem_cons_succ, List.getElem_cons_zero, Act.put, List.setIfInBounds_toArray, List.set_cons_zero, List.set_cons_succ]
                  refine wpAnyH_take (i := 12) (v := .bool false) rfl (by kernel_rfl) (by kernel_rfl) (by kernel_rfl) (fun _ _ _ h => h) (Or.inl ⟨by rfl, by intro wx hx; go_simp⟩) (by assumption) ?_
                  try simp only [List.getElem_toArray, List.getElem_cons_succ, List.getElem_cons_zero, Act.put, List.setIfInBounds_toArray, List.set_cons_zero, List.set_cons_succ]
                  refine wpAnyH_done (by kernel_rfl) ?_ _
                  go_wp2_with fail
                  go_roundw
                  case rel => exact ⟨s + 1, by omega, by go_num, hno4.out, Ext.trans eq e5q⟩
                  case measure => simp [intOf]; omega
                | false =>
                  have hok := hid hok0
                  have hfin := hid (hexs.out i j s (by rw [hO.out]; exact hhit.out i j s hno1.out hno2.out hno3.out hlti hltj hlts (by rw [hPd.out]; rw [hPd.out] at hok0; exact hok0)))
                  clear hok0
                  replace hxl := hid hxl
                  replace hyl := hid hyl
                  obtain ⟨x, hxd⟩ : ∃ z, z = row P i := ⟨_, rfl⟩
                  obtain ⟨y, hyd⟩ : ∃ z, z = row P j := ⟨_, rfl⟩
                  rw [← hxd] at hc1 hi1 hxc hSx hok hsx hcs hfin hxl
                  rw [← hyd] at hc2 hi2 hyc hSx hok hfin hyl
                  obtain ⟨xs, hxs⟩ : ∃ z, z = nth x s := ⟨_, rfl⟩
                  rw [← hxs] at hcs hfin
                  replace hxd := hid hxd
                  replace hyd := hid hyd
                  replace hxs := hid hxs
                  go_wp2_with fail
                  refine region_held_from (w0 := wq) (S := fun u => u.cell? ⟨bP, oP + i, none⟩ = some (.slice (some ⟨bx1, ox1, none⟩) x.length m1) ∧ u.cell? ⟨bP, oP + j, none⟩ = some (.slice d2 y.length m2)) (by kernel_rfl) hSx.out (fun wd ed hHeld0 => ?_)
                  have ePd : Ext wP wd := Ext.trans eq ed
                  refine wpAnyH_take (i := 0) (v := .slice (some ⟨bP, oP, none⟩) P.length cP) rfl (by kernel_rfl) (by kernel_rfl) (by kernel_rfl) (fun _ _ _ h => h) (Or.inl ⟨by rfl, by intro wx hx; go_simp⟩) (by assumption) ?_
                  try simp only [List.getElem_toArray, List.getElem_cons_zero, Act.put, List.setIfInBounds_toArray, List.set_cons_zero, List.set_cons_succ]
                  refine wpAnyH_take (i := 1) (v := .slice dw ws.length mw) rfl (by kernel_rfl) (by kernel_rfl) (by kernel_rfl) (fun _ _ _ h => h) (Or.inl ⟨by rfl, by intro wx hx; go_simp⟩) (by assumption) ?_
                  try simp only [List.getElem_toArray, List.getElem_cons_succ, List.getElem_cons_zero, Act.put, List.setIfInBounds_toArray, List.set_cons_zero, List.set_cons_succ]
                  refine wpAnyH_take (i := 2) (v := .slice (some ⟨bP, oP, none⟩) P.length cP) rfl (by kernel_rfl) (by kernel_rfl) (by kernel_rfl) (fun _ _ _ h => h) (Or.inl ⟨by rfl, by intro wx hx; go_simp⟩) (by assumption) ?_
                  try simp only [List.getElem_toArray, List.getElem_cons_succ, List.getElem_cons_zero, Act.put, List.setIfInBounds_toArray, List.set_cons_zero, List.set_cons_succ]
                  refine wpAnyH_take (i := 3) (v := .int .i64 i) rfl (by kernel_rfl) (by kernel_rfl) (by kernel_rfl) (fun _ _ _ h => h) (Or.inl ⟨by rfl, by intro wx hx; go_simp⟩) (by assumption) ?_
                  try simp only [List.getElem_toArray, List.getElem_cons_succ, List.getElem_cons_zero, Act.put, List.setIfInBounds_toArray, List.set_cons_zero, List.set_cons_succ]
                  refine wpAnyH_take (i := 4) (v := .pointer (some ⟨bP, oP + i, none⟩)) rfl (by kernel_rfl) (by kernel_rfl) (by kernel_rfl) (fun _ _ _ h => h) (Or.inl ⟨by rfl, by intro wx hx; go_simp⟩) (by assumption) ?_
                  try simp only [List.getElem_toArray, List.getElem_cons_succ, List.getElem_cons_zero, Act.put, List.setIfInBounds_toArray, List.set_cons_zero, List.set_cons_succ]
                  refine wpAnyH_take (i := 5) (v := .slice (some ⟨bx1, ox1, none⟩) x.length m1) rfl (by kernel_rfl) (by kernel_rfl) (by kernel_rfl) (fun _ _ _ h => h) (Or.inl ⟨by rfl, by intro wx hx; obtain ⟨_, _⟩ := hx; go_simp⟩) (by assumption) ?_
                  try simp only [List.getElem_toArray, List.getElem_cons_succ, List.getElem_cons_zero, Act.put, List.setIfInBounds_toArray, List.set_cons_zero, List.set_cons_succ]
                  refine wpAnyH_take (i := 6) (v := .slice (some ⟨bP, oP, none⟩) P.length cP) rfl (by kernel_rfl) (by kernel_rfl) (by kernel_rfl) (fun _ _ _ h => h) (Or.inl ⟨by rfl, by intro wx hx; go_simp⟩) (by assumption) ?_
                  try simp only [List.getElem_toArray, List.getElem_cons_succ, List.getElem_cons_zero, Act.put, List.setIfInBounds_toArray, List.set_cons_zero, List.set_cons_succ]
                  refine wpAnyH_take (i := 7) (v := .int .i64 j) rfl (by kernel_rfl) (by kernel_rfl) (by kernel_rfl) (fun _ _ _ h => h) (Or.inl ⟨by rfl, by intro wx hx; go_simp⟩) (by assumption) ?_
                  try simp only [List.getElem_toArray, List.getElem_cons_succ, List.getElem_cons_zero, Act.put, List.setIfInBounds_toArray, List.set_cons_zero, List.set_cons_succ]
                  refine wpAnyH_take (i := 8) (v := .pointer (some ⟨bP, oP + j, none⟩)) rfl (by kernel_rfl) (by kernel_rfl) (by kernel_rfl) (fun _ _ _ h => h) (Or.inl ⟨by rfl, by intro wx hx; go_simp⟩) (by assumption) ?_
                  try simp only [List.getElem_toArray, List.getElem_cons_succ, List.getElem_cons_zero, Act.put, List.setIfInBounds_toArray, List.set_cons_zero, List.set_cons_succ]
                  refine wpAnyH_take (i := 9) (v := .slice d2 y.length m2) rfl (by kernel_rfl) (by kernel_rfl) (by kernel_rfl) (fun _ _ _ h => h) (Or.inl ⟨by rfl, by intro wx hx; obtain ⟨_, _⟩ := hx; go_simp⟩) (by assumption) ?_
                  try simp only [List.getElem_toArray, List.getElem_cons_succ, List.getElem_cons_zero, Act.put, List.setIfInBounds_toArray, List.set_cons_zero, List.set_cons_succ]
                  refine wpAnyH_take (i := 10) (v := .int .i64 s) rfl (by kernel_rfl) (by kernel_rfl) (by kernel_rfl) (fun _ _ _ h => h) (Or.inl ⟨by rfl, by intro wx hx; go_simp⟩) (by assumption) ?_
                  try simp only [List.getElem_toArray, List.getElem_cons_succ, List.getElem_cons_zero, Act.put, List.setIfInBounds_toArray, List.set_cons_zero, List.set_cons_succ]
                  refine wpAnyH_ready (rs := [11]) (by kernel_rfl) (by simp) ?_
                  refine AllReadyH.cons rfl (fun K hK => ?_) AllReadyH.nil
                  go_simp
                  go_at_call 40
                  refine (l7Exchanges_any (n := M.length) (k := kn) (w0 := wP) (by rw [← hPd.out]; exact hP') (hw'.ext (e := e0P)) hi1 hi2 hMl.2 hkn hxc.out hyc.out hlts hlwc.out hwbc.out).mono ?_
                  rw [hok.out]
                  rintro e w5 ⟨rfl, e5⟩
                  have e5q : Ext wq w5 := Ext.trans ed e5
                  have hS5 := hSx.out w5 e5q
                  go_wp2_with fail
                  refine hK.out _ _ hS5 (fun _ => ?_)
                  clear hK K
                  try simp only [List.getElem_toArray, List.getElem_cons_succ, List.getElem_cons_zero, Act.put, List.setIfInBounds_toArray, List.set_cons_zero, List.set_cons_succ]
                  refine wpAnyH_take (i := 12) (v := .bool true) rfl (by kernel_rfl) (by kernel_rfl) (by kernel_rfl) (fun _ _ _ h => h) (Or.inl ⟨by rfl, by intro wx hx; go_simp⟩) (by assumption) ?_
                  try simp only [List.getElem_toArray, List.getElem_cons_succ, List.getElem_cons_zero, Act.put, List.setIfInBounds_toArray, List.set_cons_zero, List.set_cons_succ]
                  refine wpAnyH_done (by kernel_rfl) ?_ _
                  have ePw5 : Ext wP w5 := Ext.trans eq e5q
                  have e05 : Ext w0 w5 := Ext.trans e0q e5q
                  have hSy := hid (show ∀ u, Ext w5 u → u.cell? ⟨bP, oP + i, none⟩ = some (.slice (some ⟨bx1, ox1, none⟩) x.length m1) ∧ u.cell? ⟨bP, oP + j, none⟩ = some (.slice d2 y.length m2) ∧ u.cell? ⟨bx1, ox1 + s, none⟩ = some (.int .i64 xs) from fun u e => ⟨(Ext.trans ePw5 e).cell hc1, (Ext.trans ePw5 e).cell hc2, (Ext.trans ePw5 e).cell hcs⟩)
                  go_wp2_with fail
                  refine region_held_from (w0 := w5) (S := fun u => u.cell? ⟨bP, oP + i, none⟩ = some (.slice (some ⟨bx1, ox1, none⟩) x.length m1) ∧ u.cell? ⟨bP, oP + j, none⟩ = some (.slice d2 y.length m2) ∧ u.cell? ⟨bx1, ox1 + s, none⟩ = some (.int .i64 xs)) (by kernel_rfl) hSy.out (fun we ee hHeld1 => ?_)
                  have e0e : Ext w0 we := Ext.trans e05 ee
                  refine wpAnyH_take (i := 0) (v := .slice (some ⟨bP, oP, none⟩) P.length cP) rfl (by kernel_rfl) (by kernel_rfl) (by kernel_rfl) (fun _ _ _ h => h) (Or.inl ⟨by rfl, by intro wx hx; go_simp⟩) (by assumption) ?_
                  try simp only [List.getElem_toArray, List.getElem_cons_zero, Act.put, List.setIfInBounds_toArray, List.set_cons_zero, List.set_cons_succ]
                  refine wpAnyH_take (i := 1) (v := .int .i64 i) rfl (by kernel_rfl) (by kernel_rfl) (by kernel_rfl) (fun _ _ _ h => h) (Or.inl ⟨by rfl, by intro wx hx; go_simp⟩) (by assumption) ?_
                  try simp only [List.getElem_toArray, List.getElem_cons_succ, List.getElem_cons_zero, Act.put, List.setIfInBounds_toArray, List.set_cons_zero, List.set_cons_succ]
                  refine wpAnyH_take (i := 2) (v := .pointer (some ⟨bP, oP + i, none⟩)) rfl (by kernel_rfl) (by kernel_rfl) (by kernel_rfl) (fun _ _ _ h => h) (Or.inl ⟨by rfl, by intro wx hx; go_simp⟩) (by assumption) ?_
                  try simp only [List.getElem_toArray, List.getElem_cons_succ, List.getElem_cons_zero, Act.put, List.setIfInBounds_toArray, List.set_cons_zero, List.set_cons_succ]
                  refine wpAnyH_take (i := 3) (v := .slice (some ⟨bx1, ox1, none⟩) x.length m1) rfl (by kernel_rfl) (by kernel_rfl) (by kernel_rfl) (fun _ _ _ h => h) (Or.inl ⟨by rfl, by intro wx hx; obtain ⟨_, _, _⟩ := hx; go_simp⟩) (by assumption) ?_
                  try simp only [List.getElem_toArray, List.getElem_cons_succ, List.getElem_cons_zero, Act.put, List.setIfInBounds_toArray, List.set_cons_zero, List.set_cons_succ]
                  refine wpAnyH_take (i := 4) (v := .slice (some ⟨bP, oP, none⟩) P.length cP) rfl (by kernel_rfl) (by kernel_rfl) (by kernel_rfl) (fun _ _ _ h => h) (Or.inl ⟨by rfl, by intro wx hx; go_simp⟩) (by assumption) ?_
                  try simp only [List.getElem_toArray, List.getElem_cons_succ, List.getElem_cons_zero, Act.put, List.setIfInBounds_toArray, List.set_cons_zero, List.set_cons_succ]
                  refine wpAnyH_take (i := 5) (v := .int .i64 j) rfl (by kernel_rfl) (by kernel_rfl) (by kernel_rfl) (fun _ _ _ h => h) (Or.inl ⟨by rfl, by intro wx hx; go_simp⟩) (by assumption) ?_
                  try simp only [List.getElem_toArray, List.getElem_cons_succ, List.getElem_cons_zero, Act.put, List.setIfInBounds_toArray, List.set_cons_zero, List.set_cons_succ]
                  refine wpAnyH_take (i := 6) (v := .pointer (some ⟨bP, oP + j, none⟩)) rfl (by kernel_rfl) (by kernel_rfl) (by kernel_rfl) (fun _ _ _ h => h) (Or.inl ⟨by rfl, by intro wx hx; go_simp⟩) (by assumption) ?_
                  try simp only [List.getElem_toArray, List.getElem_cons_succ, List.getElem_cons_zero, Act.put, List.setIfInBounds_toArray, List.set_cons_zero, List.set_cons_succ]
                  refine wpAnyH_take (i := 7) (v := .slice d2 y.length m2) rfl (by kernel_rfl) (by kernel_rfl) (by kernel_rfl) (fun _ _ _ h => h) (Or.inl ⟨by rfl, by intro wx hx; obtain ⟨_, _, _⟩ := hx; go_simp⟩) (by assumption) ?_
                  try simp only [List.getElem_toArray, List.getElem_cons_succ, List.getElem_cons_zero, Act.put, List.setIfInBounds_toArray, List.set_cons_zero, List.set_cons_succ]
                  refine wpAnyH_take (i := 9) (v := .slice (some ⟨bP, oP, none⟩) P.length cP) rfl (by kernel_rfl) (by kernel_rfl) (by kernel_rfl) (fun _ _ _ h => h) (Or.inl ⟨by rfl, by intro wx hx; go_simp⟩) (by assumption) ?_
                  try simp only [List.getElem_toArray, List.getElem_cons_succ, List.getElem_cons_zero, Act.put, List.setIfInBounds_toArray, List.set_cons_zero, List.set_cons_succ]
                  refine wpAnyH_take (i := 10) (v := .int .i64 i) rfl (by kernel_rfl) (by kernel_rfl) (by kernel_rfl) (fun _ _ _ h => h) (Or.inl ⟨by rfl, by intro wx hx; go_simp⟩) (by assumption) ?_
                  try simp only [List.getElem_toArray, List.getElem_cons_succ, List.getElem_cons_zero, Act.put, List.setIfInBounds_toArray, List.set_cons_zero, List.set_cons_succ]
                  refine wpAnyH_take (i := 11) (v := .pointer (some ⟨bP, oP + i, none⟩)) rfl (by kernel_rfl) (by kernel_rfl) (by kernel_rfl) (fun _ _ _ h => h) (Or.inl ⟨by rfl, by intro wx hx; go_simp⟩) (by assumption) ?_
                  try simp only [List.getElem_toArray, List.getElem_cons_succ, List.getElem_cons_zero, Act.put, List.setIfInBounds_toArray, List.set_cons_zero, List.set_cons_succ]
                  refine wpAnyH_take (i := 12) (v := .slice (some ⟨bx1, ox1, none⟩) x.length m1) rfl (by kernel_rfl) (by kernel_rfl) (by kernel_rfl) (fun _ _ _ h => h) (Or.inl ⟨by rfl, by intro wx hx; obtain ⟨_, _, _⟩ := hx; go_simp⟩) (by assumption) ?_
                  try simp only [List.getElem_toArray, List.getElem_cons_succ, List.getElem_cons_zero, Act.put, List.setIfInBounds_toArray, List.set_cons_zero, List.set_cons_succ]
                  refine wpAnyH_take (i := 13) (v := .int .i64 s) rfl (by kernel_rfl) (by kernel_rfl) (by kernel_rfl) (fun _ _ _ h => h) (Or.inl ⟨by rfl, by intro wx hx; go_simp⟩) (by assumption) ?_
                  try simp only [List.getElem_toArray, List.getElem_cons_succ, List.getElem_cons_zero, Act.put, List.setIfInBounds_toArray, List.set_cons_zero, List.set_cons_succ]
                  refine wpAnyH_take (i := 14) (v := .pointer (some ⟨bx1, ox1 + s, none⟩)) rfl (by kernel_rfl) (by kernel_rfl) (by kernel_rfl) (fun _ _ _ h => h) (Or.inl ⟨by rfl, by intro wx hx; go_simp⟩) (by assumption) ?_
                  try simp only [List.getElem_toArray, List.getElem_cons_succ, List.getElem_cons_zero, Act.put, List.setIfInBounds_toArray, List.set_cons_zero, List.set_cons_succ]
                  refine wpAnyH_take (i := 15) (v := .int .i64 xs) rfl (by kernel_rfl) (by kernel_rfl) (by kernel_rfl) (fun _ _ _ h => h) (Or.inl ⟨by rfl, by intro wx hx; obtain ⟨_, _, _⟩ := hx; go_simp⟩) (by assumption) ?_
                  try simp only [List.getElem_toArray, List.getElem_cons_succ, List.getElem_cons_zero, Act.put, List.setIfInBounds_toArray, List.set_cons_zero, List.set_cons_succ]
                  refine wpAnyH_ready (rs := [8]) (by kernel_rfl) (by simp) ?_
                  refine AllReadyH.cons rfl (fun K hK => ?_) AllReadyH.nil
                  go_simp
                  go_at_call 41
                  refine (l1Own_any (w0 := we) (w := we) (hi2.ext (e := Ext.trans ePw5 ee))).mono ?_
                  rintro e w6 ⟨d6, m6, rfl, own6, e6⟩
                  have hS6 := hSy.out w6 (Ext.trans ee e6)
                  go_wp2_with fail
                  refine hK.out _ _ hS6 (fun _ => ?_)
                  clear hK K
                  try simp only [List.getElem_toArray, List.getElem_cons_succ, List.getElem_cons_zero, Act.put, List.setIfInBounds_toArray, List.set_cons_zero, List.set_cons_succ]
                  refine wpAnyH_take (i := 16) (v := .slice (some ⟨bx1, ox1, none⟩) x.length m1) rfl (by kernel_rfl) (by kernel_rfl) (by kernel_rfl) (fun _ _ _ h => h) (Or.inl ⟨by rfl, by intro wx hx; go_simp⟩) (by assumption) ?_
                  try simp only [List.getElem_toArray, List.getElem_cons_succ, List.getElem_cons_zero, Act.put, List.setIfInBounds_toArray, List.set_cons_zero, List.set_cons_succ]
                  refine wpAnyH_take (i := 17) (v := .slice d6 y.length m6) rfl (by kernel_rfl) (by kernel_rfl) (by kernel_rfl) (fun _ _ _ h => h) (Or.inl ⟨by rfl, by intro wx hx; go_simp⟩) (by assumption) ?_
                  try simp only [List.getElem_toArray, List.getElem_cons_succ, List.getElem_cons_zero, Act.put, List.setIfInBounds_toArray, List.set_cons_zero, List.set_cons_succ]
                  refine wpAnyH_take (i := 18) (v := .int .i64 xs) rfl (by kernel_rfl) (by kernel_rfl) (by kernel_rfl) (fun _ _ _ h => h) (Or.inl ⟨by rfl, by intro wx hx; go_simp⟩) (by assumption) ?_
                  try simp only [List.getElem_toArray, List.getElem_cons_succ, List.getElem_cons_zero, Act.put, List.setIfInBounds_toArray, List.set_cons_zero, List.set_cons_succ]
                  refine wpAnyH_take (i := 19) (v := .bool true) rfl (by kernel_rfl) (by kernel_rfl) (by kernel_rfl) (fun _ _ _ h => h) (Or.inl ⟨by rfl, by intro wx hx; go_simp⟩) (by assumption) ?_
                  try simp only [List.getElem_toArray, List.getElem_cons_succ, List.getElem_cons_zero, Act.put, List.setIfInBounds_toArray, List.set_cons_zero, List.set_cons_succ]
                  refine wpAnyH_done (by kernel_rfl) ?_ _
                  go_wp2_with fail
                  (try simp only [Exit.inBlock, Exit.then]); refine bodyPost_ret (results_tmp4 rfl _ _ _) rfl ?_
                  rw [hfin.out.1, hfin.out.2.1, hfin.out.2.2.1, hfin.out.2.2.2]
                  exact ⟨_, _, _, _, rfl, hi1.ext (e := Ext.trans ePw5 (Ext.trans ee e6)), own6.reads (by unfold Short; have := hyl.out.1; omega) hyl.out.2, Ext.trans ePw (Ext.trans ePw5 (Ext.trans ee e6))⟩
              · have hsk : s = kn := by omega
                have hno4 := hid (show ∀ z, z < j + 1 → exS2 P ws kn i z = none from fun z hz => by
                  by_cases e : z = j
                  · rw [e]; exact fst_none fun q hq => hno3.out q (by omega)
                  · exact hno2.out z (by omega))
                replace hsk := hid hsk
                go_wp2_with fail
                go_roundw
                case rel => exact ⟨j + 1, by omega, by go_num, hno4.out, hx3⟩
                case measure => simp [intOf]; omega
          · have hjn : j = P.length := by omega
            have hno4 := hid (show ∀ z, z < i + 1 → exS1 P ws kn z = none from fun z hz => by
              by_cases e : z = i
              · rw [e]; exact fst_none fun q hq => hno2.out q (by omega)
              · exact hno1.out z (by omega))
            replace hjn := hid hjn
            go_wp2_with fail
            go_roundw
            case rel => exact ⟨i + 1, by omega, by go_num, hno4.out, hx2⟩
            case measure => simp [intOf]; omega
      · have hfin := hid (hexn.out (by rw [hO.out]; exact hmiss.out fun q hq => hno1.out q (by omega)))
        go_wp2_with fail
        (try simp only [Exit.inBlock, Exit.then]); refine bodyPost_ret (results_tmp4 rfl _ _ _) rfl ?_
        rw [hfin.out.1, hfin.out.2.1, hfin.out.2.2.1, hfin.out.2.2.2]
        exact ⟨_, _, _, _, rfl, isInts_zero _ _ _, isInts_zero _ _ _, Ext.trans ePw (Ext.trans hx1 inferInstance)⟩
end Go.Proofs.Ytmgcfnciejfpbaa

/- Exchanges between configurations, the program's. -/
namespace Go.Proofs.Ytmgcfnciejfpbaa
open Go.RowKit

/-- what the program asks of a point q -/
def exQ (P : List (List Int)) (ws a b : List Int) (wi wj p q : Int) : Bool := decide (nth ws (atR P (movL a p q)) + nth ws (atR P (movL b q p)) ≤ wi + wj)

set_option maxHeartbeats 3200000 in
set_option maxRecDepth 100000 in
theorem exch1_any {vx va vb vw : Value} {M : List (List Int)} {ws a b : List Int} {i j k g1 g2 g3 g4 g5 g6 g7 : Nat} {p q : Int} {w0 w : World} [Ext w0 w] (hW : IsWorks w0 vx M (confs M.length k 0)) (hw : IsInts w0 vw ws) (ha : IsInts w0 va a) (hb : IsInts w0 vb b) (hn : M.length ≤ 6) (hk : k ≤ 3)
    (hac : a ∈ confs M.length k 0) (hbc : b ∈ confs M.length k 0) (hpa : p ∈ a) (hqb : q ∈ b) (hi : i < (confs M.length k 0).length) (hj : j < (confs M.length k 0).length) (hlw : ws.length = (confs M.length k 0).length) (hwb : ∀ j, j < (confs M.length k 0).length → 0 ≤ nth ws j ∧ nth ws j ≤ 1000000)
    (c1 : w.cell? ⟨g1, 0, none⟩ = some vw) (c2 : w.cell? ⟨g2, 0, none⟩ = some (.int .i64 i)) (c3 : w.cell? ⟨g3, 0, none⟩ = some (.int .i64 j)) (c4 : w.cell? ⟨g4, 0, none⟩ = some vx) (c5 : w.cell? ⟨g5, 0, none⟩ = some va) (c6 : w.cell? ⟨g6, 0, none⟩ = some (.int .i64 p)) (c7 : w.cell? ⟨g7, 0, none⟩ = some vb) :
    Calls Try.prog 83 #[.int .i64 q, .pointer (some ⟨g1, 0, none⟩), .pointer (some ⟨g2, 0, none⟩), .pointer (some ⟨g3, 0, none⟩), .pointer (some ⟨g4, 0, none⟩), .pointer (some ⟨g5, 0, none⟩), .pointer (some ⟨g6, 0, none⟩), .pointer (some ⟨g7, 0, none⟩)] w fun e w' => e = .returned (.bool (exQ (confs M.length k 0) ws a b (nth ws i) (nth ws j) p q)) ∧ Ext w w' := by
  have ha' := ha
  obtain ⟨da, ma, rfl, la⟩ := ha.form
  have hb' := hb
  obtain ⟨db, mb, rfl, lb⟩ := hb.form
  have hw' := hw
  obtain ⟨dw, mw, rfl, lw⟩ := hw.form
  obtain ⟨hak, _, hap0⟩ := confs_iff.1 hac
  obtain ⟨hbk, _, hbp0⟩ := confs_iff.1 hbc
  have hap : Pts M.length a := fun z hz => by have := hap0 z hz; omega
  have hbp : Pts M.length b := fun z hz => by have := hbp0 z hz; omega
  have hpr := hap p hpa
  have hqr := hbp q hqb
  have h216 := confs_216 hn hk
  have hm1 := hid (show movL a p q ∈ confs M.length k 0 by
    obtain ⟨s, hs, e⟩ := mem_iff_nth.1 hpa
    rw [← e, mov_sv hs]
    exact (set_conf hac (by omega) hqr).1)
  have hm2 := hid (show movL b q p ∈ confs M.length k 0 by
    obtain ⟨s, hs, e⟩ := mem_iff_nth.1 hqb
    rw [← e, mov_sv hs]
    exact (set_conf hbc (by omega) hpr).1)
  have hi1 := hid (show ∀ z ∈ movL a p q, I64 z from fun z hz => by
    have := (confs_iff.1 hm1.out).2.2 z hz
    unfold I64; omega)
  have hi2 := hid (show ∀ z ∈ movL b q p, I64 z from fun z hz => by
    have := (confs_iff.1 hm2.out).2.2 z hz
    unfold I64; omega)
  have hqi := hid (show I64 q by unfold I64; omega)
  have hpi := hid (show I64 p by unfold I64; omega)
  have ha3 : a.length ≤ 3 := by omega
  have hb3 : b.length ≤ 3 := by omega
  clear hap0 hbp0 hap hbp hpr hqr
  replace hac := hid hac
  replace hbc := hid hbc
  replace hpa := hid hpa
  replace hqb := hid hqb
  replace hak := hid hak
  replace hbk := hid hbk
  have hasc := hid (confs_asc M.length k 0)
  obtain ⟨P, hPd⟩ : ∃ p, p = confs M.length k 0 := ⟨_, rfl⟩
  rw [← hPd] at hW hlw hwb hi hj hm1 hm2 h216 hasc ⊢
  replace hPd := hid hPd
  have ht1 := (atR_lt hm1.out).1
  have ht2 := (atR_lt hm2.out).1
  have hex := hid (show exQ P ws a b (nth ws i) (nth ws j) p q = decide (nth ws (atR P (movL a p q)) + nth ws (atR P (movL b q p)) ≤ nth ws i + nth ws j) from rfl)
  obtain ⟨RES, hRES⟩ : ∃ r, r = exQ P ws a b (nth ws i) (nth ws j) p q := ⟨_, rfl⟩
  rw [← hRES] at hex ⊢
  replace hRES := hid hRES
  obtain ⟨t1, ht1d⟩ : ∃ z, z = atR P (movL a p q) := ⟨_, rfl⟩
  obtain ⟨t2, ht2d⟩ : ∃ z, z = atR P (movL b q p) := ⟨_, rfl⟩
  rw [← ht1d] at ht1 hex
  rw [← ht2d] at ht2 hex
  have ha1 := hid ht1d.symm
  have ha2 := hid ht2d.symm
  clear ht1d ht2d
  rw [← hlw] at hi hj ht1 ht2
  obtain ⟨bw, ow, hdw, hci⟩ := hw'.at (w' := w) hi
  cases hdw
  obtain ⟨b1, o1, hd1, hcj⟩ := hw'.at (w' := w) hj
  cases hd1
  obtain ⟨b2, o2, hd2, hc1⟩ := hw'.at (w' := w) ht1
  cases hd2
  obtain ⟨b3, o3, hd3, hc2⟩ := hw'.at (w' := w) ht2
  cases hd3
  have q1 := hwb i (by rw [← hlw]; exact hi)
  have q2 := hwb j (by rw [← hlw]; exact hj)
  have q3 := hwb t1 (by rw [← hlw]; exact ht1)
  have q4 := hwb t2 (by rw [← hlw]; exact ht2)
  replace hlw := hid hlw
  replace hwb := hid hwb
  obtain ⟨wi, hwi⟩ : ∃ z, z = nth ws i := ⟨_, rfl⟩
  obtain ⟨wj, hwj⟩ : ∃ z, z = nth ws j := ⟨_, rfl⟩
  obtain ⟨w1, hw1⟩ : ∃ z, z = nth ws t1 := ⟨_, rfl⟩
  obtain ⟨w2, hw2⟩ : ∃ z, z = nth ws t2 := ⟨_, rfl⟩
  rw [← hwi] at hci q1 hex
  rw [← hwj] at hcj q2 hex
  rw [← hw1] at hc1 q3 hex
  rw [← hw2] at hc2 q4 hex
  replace hwi := hid hwi
  replace hwj := hid hwj
  replace hw1 := hid hw1
  replace hw2 := hid hw2
  have hSx := hid (show ∀ u, Ext w u → u.cell? ⟨g1, 0, none⟩ = some (.slice (some ⟨bw, ow, none⟩) ws.length mw) ∧ u.cell? ⟨g2, 0, none⟩ = some (.int .i64 i) ∧ u.cell? ⟨g3, 0, none⟩ = some (.int .i64 j) ∧ u.cell? ⟨g4, 0, none⟩ = some vx ∧ u.cell? ⟨g5, 0, none⟩ = some (.slice da a.length ma) ∧ u.cell? ⟨g6, 0, none⟩ = some (.int .i64 p) ∧ u.cell? ⟨g7, 0, none⟩ = some (.slice db b.length mb) ∧ u.cell? ⟨bw, ow + i, none⟩ = some (.int .i64 wi) ∧ u.cell? ⟨bw, ow + j, none⟩ = some (.int .i64 wj) ∧ u.cell? ⟨bw, ow + t1, none⟩ = some (.int .i64 w1) ∧ u.cell? ⟨bw, ow + t2, none⟩ = some (.int .i64 w2) from fun u e => ⟨e.cell c1, e.cell c2, e.cell c3, e.cell c4, e.cell c5, e.cell c6, e.cell c7, e.cell hci, e.cell hcj, e.cell hc1, e.cell hc2⟩)
  clear c1 c2 c3 c4 c5 c6 c7 hci hcj hc1 hc2
  have hs1 : IntKind.i64.wrap (wi + wj) = wi + wj := IntWalk.i64_in _ (by omega)
  have hs2 : IntKind.i64.wrap (w1 + w2) = w1 + w2 := IntWalk.i64_in _ (by omega)
  go_enter Try.func83, Try.ntmps83
  go_wp2_with fail
  refine region_held_from (w0 := w) (S := fun u => u.cell? ⟨g1, 0, none⟩ = some (.slice (some ⟨bw, ow, none⟩) ws.length mw) ∧ u.cell? ⟨g2, 0, none⟩ = some (.int .i64 i) ∧ u.cell? ⟨g3, 0, none⟩ = some (.int .i64 j) ∧ u.cell? ⟨g4, 0, none⟩ = some vx ∧ u.cell? ⟨g5, 0, none⟩ = some (.slice da a.length ma) ∧ u.cell? ⟨g6, 0, none⟩ = some (.int .i64 p) ∧ u.cell? ⟨g7, 0, none⟩ = some (.slice db b.length mb) ∧ u.cell? ⟨bw, ow + i, none⟩ = some (.int .i64 wi) ∧ u.cell? ⟨bw, ow + j, none⟩ = some (.int .i64 wj) ∧ u.cell? ⟨bw, ow + t1, none⟩ = some (.int .i64 w1) ∧ u.cell? ⟨bw, ow + t2, none⟩ = some (.int .i64 w2)) (by kernel_rfl) hSx.out (fun wd ed hHeld0 => ?_)
  have e0d : Ext w0 wd := Ext.trans ‹Ext w0 w› ed
  refine wpAnyH_take (i := 0) (v := .slice (some ⟨bw, ow, none⟩) ws.length mw) rfl (by kernel_rfl) (by kernel_rfl) (by kernel_rfl) (fun _ _ _ h => h) (Or.inl ⟨by rfl, by intro wx hx; obtain ⟨_, _, _, _, _, _, _, _, _, _, _⟩ := hx; go_simp⟩) (by assumption) ?_
  try simp only [List.getElem_toArray, List.getElem_cons_zero, Act.put, List.setIfInBounds_toArray, List.set_cons_zero, List.set_cons_succ]
  refine wpAnyH_take (i := 1) (v := .int .i64 i) rfl (by kernel_rfl) (by kernel_rfl) (by kernel_rfl) (fun _ _ _ h => h) (Or.inl ⟨by rfl, by intro wx hx; obtain ⟨_, _, _, _, _, _, _, _, _, _, _⟩ := hx; go_simp⟩) (by assumption) ?_
  try simp only [List.getElem_toArray, List.getElem_cons_succ, List.getElem_cons_zero, Act.put, List.setIfInBounds_toArray, List.set_cons_zero, List.set_cons_succ]
  refine wpAnyH_take (i := 2) (v := .pointer (some ⟨bw, ow + i, none⟩)) rfl (by kernel_rfl) (by kernel_rfl) (by kernel_rfl) (fun _ _ _ h => h) (Or.inl ⟨by rfl, by intro wx hx; go_simp⟩) (by assumption) ?_
  try simp only [List.getElem_toArray, List.getElem_cons_succ, List.getElem_cons_zero, Act.put, List.setIfInBounds_toArray, List.set_cons_zero, List.set_cons_succ]
  refine wpAnyH_take (i := 3) (v := .int .i64 wi) rfl (by kernel_rfl) (by kernel_rfl) (by kernel_rfl) (fun _ _ _ h => h) (Or.inl ⟨by rfl, by intro wx hx; obtain ⟨_, _, _, _, _, _, _, _, _, _, _⟩ := hx; go_simp⟩) (by assumption) ?_
  try simp only [List.getElem_toArray, List.getElem_cons_succ, List.getElem_cons_zero, Act.put, List.setIfInBounds_toArray, List.set_cons_zero, List.set_cons_succ]
  refine wpAnyH_take (i := 4) (v := .slice (some ⟨bw, ow, none⟩) ws.length mw) rfl (by kernel_rfl) (by kernel_rfl) (by kernel_rfl) (fun _ _ _ h => h) (Or.inl ⟨by rfl, by intro wx hx; obtain ⟨_, _, _, _, _, _, _, _, _, _, _⟩ := hx; go_simp⟩) (by assumption) ?_
  try simp only [List.getElem_toArray, List.getElem_cons_succ, List.getElem_cons_zero, Act.put, List.setIfInBounds_toArray, List.set_cons_zero, List.set_cons_succ]
  refine wpAnyH_take (i := 5) (v := .int .i64 j) rfl (by kernel_rfl) (by kernel_rfl) (by kernel_rfl) (fun _ _ _ h => h) (Or.inl ⟨by rfl, by intro wx hx; obtain ⟨_, _, _, _, _, _, _, _, _, _, _⟩ := hx; go_simp⟩) (by assumption) ?_
  try simp only [List.getElem_toArray, List.getElem_cons_succ, List.getElem_cons_zero, Act.put, List.setIfInBounds_toArray, List.set_cons_zero, List.set_cons_succ]
  refine wpAnyH_take (i := 6) (v := .pointer (some ⟨bw, ow + j, none⟩)) rfl (by kernel_rfl) (by kernel_rfl) (by kernel_rfl) (fun _ _ _ h => h) (Or.inl ⟨by rfl, by intro wx hx; go_simp⟩) (by assumption) ?_
  try simp only [List.getElem_toArray, List.getElem_cons_succ, List.getElem_cons_zero, Act.put, List.setIfInBounds_toArray, List.set_cons_zero, List.set_cons_succ]
  refine wpAnyH_take (i := 7) (v := .int .i64 wj) rfl (by kernel_rfl) (by kernel_rfl) (by kernel_rfl) (fun _ _ _ h => h) (Or.inl ⟨by rfl, by intro wx hx; obtain ⟨_, _, _, _, _, _, _, _, _, _, _⟩ := hx; go_simp⟩) (by assumption) ?_
  try simp only [List.getElem_toArray, List.getElem_cons_succ, List.getElem_cons_zero, Act.put, List.setIfInBounds_toArray, List.set_cons_zero, List.set_cons_succ]
  refine wpAnyH_take (i := 8) (v := .int .i64 (wi + wj)) rfl (by kernel_rfl) (by kernel_rfl) (by kernel_rfl) (fun _ _ _ h => h) (Or.inl ⟨by rfl, by intro wx hx; go_simp⟩) (by assumption) ?_
  try simp only [List.getElem_toArray, List.getElem_cons_succ, List.getElem_cons_zero, Act.put, List.setIfInBounds_toArray, List.set_cons_zero, List.set_cons_succ]
  refine wpAnyH_take (i := 9) (v := .slice (some ⟨bw, ow, none⟩) ws.length mw) rfl (by kernel_rfl) (by kernel_rfl) (by kernel_rfl) (fun _ _ _ h => h) (Or.inl ⟨by rfl, by intro wx hx; obtain ⟨_, _, _, _, _, _, _, _, _, _, _⟩ := hx; go_simp⟩) (by assumption) ?_
  try simp only [List.getElem_toArray, List.getElem_cons_succ, List.getElem_cons_zero, Act.put, List.setIfInBounds_toArray, List.set_cons_zero, List.set_cons_succ]
  refine wpAnyH_take (i := 10) (v := vx) rfl (by kernel_rfl) (by kernel_rfl) (by kernel_rfl) (fun _ _ _ h => h) (Or.inl ⟨by rfl, by intro wx hx; obtain ⟨_, _, _, _, _, _, _, _, _, _, _⟩ := hx; go_simp⟩) (by assumption) ?_
  try simp only [List.getElem_toArray, List.getElem_cons_succ, List.getElem_cons_zero, Act.put, List.setIfInBounds_toArray, List.set_cons_zero, List.set_cons_succ]
  refine wpAnyH_take (i := 11) (v := .slice da a.length ma) rfl (by kernel_rfl) (by kernel_rfl) (by kernel_rfl) (fun _ _ _ h => h) (Or.inl ⟨by rfl, by intro wx hx; obtain ⟨_, _, _, _, _, _, _, _, _, _, _⟩ := hx; go_simp⟩) (by assumption) ?_
  try simp only [List.getElem_toArray, List.getElem_cons_succ, List.getElem_cons_zero, Act.put, List.setIfInBounds_toArray, List.set_cons_zero, List.set_cons_succ]
  refine wpAnyH_take (i := 12) (v := .int .i64 p) rfl (by kernel_rfl) (by kernel_rfl) (by kernel_rfl) (fun _ _ _ h => h) (Or.inl ⟨by rfl, by intro wx hx; obtain ⟨_, _, _, _, _, _, _, _, _, _, _⟩ := hx; go_simp⟩) (by assumption) ?_
  try simp only [List.getElem_toArray, List.getElem_cons_succ, List.getElem_cons_zero, Act.put, List.setIfInBounds_toArray, List.set_cons_zero, List.set_cons_succ]
  refine wpAnyH_take (i := 13) (v := .int .i64 q) rfl (by kernel_rfl) (by kernel_rfl) (by kernel_rfl) (fun _ _ _ h => h) (Or.inl ⟨by rfl, by intro wx hx; go_simp⟩) (by assumption) ?_
  try simp only [List.getElem_toArray, List.getElem_cons_succ, List.getElem_cons_zero, Act.put, List.setIfInBounds_toArray, List.set_cons_zero, List.set_cons_succ]
  refine wpAnyH_take (i := 18) (v := .slice (some ⟨bw, ow, none⟩) ws.length mw) rfl (by kernel_rfl) (by kernel_rfl) (by kernel_rfl) (fun _ _ _ h => h) (Or.inl ⟨by rfl, by intro wx hx; obtain ⟨_, _, _, _, _, _, _, _, _, _, _⟩ := hx; go_simp⟩) (by assumption) ?_
  try simp only [List.getElem_toArray, List.getElem_cons_succ, List.getElem_cons_zero, Act.put, List.setIfInBounds_toArray, List.set_cons_zero, List.set_cons_succ]
  refine wpAnyH_take (i := 19) (v := vx) rfl (by kernel_rfl) (by kernel_rfl) (by kernel_rfl) (fun _ _ _ h => h) (Or.inl ⟨by rfl, by intro wx hx; obtain ⟨_, _, _, _, _, _, _, _, _, _, _⟩ := hx; go_simp⟩) (by assumption) ?_
  try simp only [List.getElem_toArray, List.getElem_cons_succ, List.getElem_cons_zero, Act.put, List.setIfInBounds_toArray, List.set_cons_zero, List.set_cons_succ]
  refine wpAnyH_take (i := 20) (v := .slice db b.length mb) rfl (by kernel_rfl) (by kernel_rfl) (by kernel_rfl) (fun _ _ _ h => h) (Or.inl ⟨by rfl, by intro wx hx; obtain ⟨_, _, _, _, _, _, _, _, _, _, _⟩ := hx; go_simp⟩) (by assumption) ?_
  try simp only [List.getElem_toArray, List.getElem_cons_succ, List.getElem_cons_zero, Act.put, List.setIfInBounds_toArray, List.set_cons_zero, List.set_cons_succ]
  refine wpAnyH_take (i := 21) (v := .int .i64 q) rfl (by kernel_rfl) (by kernel_rfl) (by kernel_rfl) (fun _ _ _ h => h) (Or.inl ⟨by rfl, by intro wx hx; go_simp⟩) (by assumption) ?_
  try simp only [List.getElem_toArray, List.getElem_cons_succ, List.getElem_cons_zero, Act.put, List.setIfInBounds_toArray, List.set_cons_zero, List.set_cons_succ]
  refine wpAnyH_take (i := 22) (v := .int .i64 p) rfl (by kernel_rfl) (by kernel_rfl) (by kernel_rfl) (fun _ _ _ h => h) (Or.inl ⟨by rfl, by intro wx hx; obtain ⟨_, _, _, _, _, _, _, _, _, _, _⟩ := hx; go_simp⟩) (by assumption) ?_
  try simp only [List.getElem_toArray, List.getElem_cons_succ, List.getElem_cons_zero, Act.put, List.setIfInBounds_toArray, List.set_cons_zero, List.set_cons_succ]
  refine wpAnyH_ready (rs := [14]) (by kernel_rfl) (by simp) ?_
  refine AllReadyH.cons rfl (fun K hK => ?_) AllReadyH.nil
  go_simp
  go_at_call 84
  refine (moved_any (w0 := w0) ha' hpa.out hqi.out).mono ?_
  rintro e v5 ⟨d5, m5, rfl, own5, e5⟩
  have e5q : Ext w v5 := Ext.trans ed e5
  have hU : IsInts v5 (.slice d5 a.length m5) (movL a p q) := own5.reads (by unfold Short; rw [movL_len]; omega) hi1.out
  clear own5
  have hS5 := hSx.out v5 e5q
  go_wp2_with fail
  refine hK.out _ _ hS5 (fun _ => ?_)
  clear hK K
  try simp only [List.getElem_toArray, List.getElem_cons_succ, List.getElem_cons_zero, Act.put, List.setIfInBounds_toArray, List.set_cons_zero, List.set_cons_succ]
  refine wpAnyH_ready (rs := [15]) (by kernel_rfl) (by simp) ?_
  refine AllReadyH.cons rfl (fun K hK => ?_) AllReadyH.nil
  go_simp
  go_at_call 73
  have e05 : Ext w0 v5 := Ext.trans ‹Ext w0 w› e5q
  refine (index_any (w0 := v5) (w := v5) (hW.ext (e := e05)) hU hasc.out hm1.out (by omega)).mono ?_
  rw [ha1.out]
  rintro e v6 ⟨rfl, rfl⟩
  go_wp2_with fail
  refine hK.out _ _ hS5 (fun _ => ?_)
  clear hK K
  try simp only [List.getElem_toArray, List.getElem_cons_succ, List.getElem_cons_zero, Act.put, List.setIfInBounds_toArray, List.set_cons_zero, List.set_cons_succ]
  refine wpAnyH_take (i := 16) (v := .pointer (some ⟨bw, ow + t1, none⟩)) rfl (by kernel_rfl) (by kernel_rfl) (by kernel_rfl) (fun _ _ _ h => h) (Or.inl ⟨by rfl, by intro wx hx; go_simp⟩) (by assumption) ?_
  try simp only [List.getElem_toArray, List.getElem_cons_succ, List.getElem_cons_zero, Act.put, List.setIfInBounds_toArray, List.set_cons_zero, List.set_cons_succ]
  refine wpAnyH_take (i := 17) (v := .int .i64 w1) rfl (by kernel_rfl) (by kernel_rfl) (by kernel_rfl) (fun _ _ _ h => h) (Or.inl ⟨by rfl, by intro wx hx; obtain ⟨_, _, _, _, _, _, _, _, _, _, _⟩ := hx; go_simp⟩) (by assumption) ?_
  try simp only [List.getElem_toArray, List.getElem_cons_succ, List.getElem_cons_zero, Act.put, List.setIfInBounds_toArray, List.set_cons_zero, List.set_cons_succ]
  refine wpAnyH_ready (rs := [23]) (by kernel_rfl) (by simp) ?_
  refine AllReadyH.cons rfl (fun K hK => ?_) AllReadyH.nil
  go_simp
  go_at_call 84
  refine (moved_any (w0 := w0) hb' hqb.out hpi.out).mono ?_
  rintro e v7 ⟨d7, m7, rfl, own7, e7⟩
  have e7q : Ext w v7 := Ext.trans e5q e7
  have hU7 : IsInts v7 (.slice d7 b.length m7) (movL b q p) := own7.reads (by unfold Short; rw [movL_len]; omega) hi2.out
  clear own7
  have hS7 := hSx.out v7 e7q
  go_wp2_with fail
  refine hK.out _ _ hS7 (fun _ => ?_)
  clear hK K
  try simp only [List.getElem_toArray, List.getElem_cons_succ, List.getElem_cons_zero, Act.put, List.setIfInBounds_toArray, List.set_cons_zero, List.set_cons_succ]
  refine wpAnyH_ready (rs := [24]) (by kernel_rfl) (by simp) ?_
  refine AllReadyH.cons rfl (fun K hK => ?_) AllReadyH.nil
  go_simp
  go_at_call 73
  have e07 : Ext w0 v7 := Ext.trans ‹Ext w0 w› e7q
  refine (index_any (w0 := v7) (w := v7) (hW.ext (e := e07)) hU7 hasc.out hm2.out (by omega)).mono ?_
  rw [ha2.out]
  rintro e v8 ⟨rfl, rfl⟩
  go_wp2_with fail
  refine hK.out _ _ hS7 (fun _ => ?_)
  clear hK K
  try simp only [List.getElem_toArray, List.getElem_cons_succ, List.getElem_cons_zero, Act.put, List.setIfInBounds_toArray, List.set_cons_zero, List.set_cons_succ]
  refine wpAnyH_take (i := 25) (v := .pointer (some ⟨bw, ow + t2, none⟩)) rfl (by kernel_rfl) (by kernel_rfl) (by kernel_rfl) (fun _ _ _ h => h) (Or.inl ⟨by rfl, by intro wx hx; go_simp⟩) (by assumption) ?_
  try simp only [List.getElem_toArray, List.getElem_cons_succ, List.getElem_cons_zero, Act.put, List.setIfInBounds_toArray, List.set_cons_zero, List.set_cons_succ]
  refine wpAnyH_take (i := 26) (v := .int .i64 w2) rfl (by kernel_rfl) (by kernel_rfl) (by kernel_rfl) (fun _ _ _ h => h) (Or.inl ⟨by rfl, by intro wx hx; obtain ⟨_, _, _, _, _, _, _, _, _, _, _⟩ := hx; go_simp⟩) (by assumption) ?_
  try simp only [List.getElem_toArray, List.getElem_cons_succ, List.getElem_cons_zero, Act.put, List.setIfInBounds_toArray, List.set_cons_zero, List.set_cons_succ]
  refine wpAnyH_take (i := 27) (v := .int .i64 (w1 + w2)) rfl (by kernel_rfl) (by kernel_rfl) (by kernel_rfl) (fun _ _ _ h => h) (Or.inl ⟨by rfl, by intro wx hx; go_simp⟩) (by assumption) ?_
  try simp only [List.getElem_toArray, List.getElem_cons_succ, List.getElem_cons_zero, Act.put, List.setIfInBounds_toArray, List.set_cons_zero, List.set_cons_succ]
  refine wpAnyH_take (i := 28) (v := .bool (decide (w1 + w2 ≤ wi + wj))) rfl (by kernel_rfl) (by kernel_rfl) (by kernel_rfl) (fun _ _ _ h => h) (Or.inl ⟨by rfl, by intro wx hx; go_simp⟩) (by assumption) ?_
  try simp only [List.getElem_toArray, List.getElem_cons_succ, List.getElem_cons_zero, Act.put, List.setIfInBounds_toArray, List.set_cons_zero, List.set_cons_succ]
  refine wpAnyH_take (i := 29) (v := .bool (decide (w1 + w2 ≤ wi + wj))) rfl (by kernel_rfl) (by kernel_rfl) (by kernel_rfl) (fun _ _ _ h => h) (Or.inl ⟨by rfl, by intro wx hx; go_simp⟩) (by assumption) ?_
  try simp only [List.getElem_toArray, List.getElem_cons_succ, List.getElem_cons_zero, Act.put, List.setIfInBounds_toArray, List.set_cons_zero, List.set_cons_succ]
  refine wpAnyH_done (by kernel_rfl) ?_ _
  go_wp2_with fail
  go_ret
  exact ⟨ret_bool hex.out.symm, e7q⟩
theorem exch1_call (xa : Array Value) (W : World) : (callFunc 83 xa).run Try.prog W = .ok (.enter 83 xa) W := by kernel_rfl

theorem exQ_any {P : List (List Int)} {ws : List Int} {i j s : Nat} (hi : i < P.length) (hj : j < P.length) (hs : s < (row P i).length) (hat : ∀ q, q < P.length → atR P (row P q) = q) : (row P j).any (exQ P ws (row P i) (row P j) (nth ws i) (nth ws j) (nth (row P i) s)) = exOk P ws (row P i) (row P j) s := by
  rw [Bool.eq_iff_iff, List.any_eq_true]
  simp only [exOk, exQ, decide_eq_true_eq, exS, hat i hi, hat j hj]
  constructor
  · rintro ⟨q, hq, h⟩
    obtain ⟨t, ht, rfl⟩ := mem_iff_nth.1 hq
    refine ⟨t, ht, ?_⟩
    rw [mov_sv hs, mov_sv ht] at h
    exact h
  · rintro ⟨t, ht, h⟩
    refine ⟨nth (row P j) t, nth_mem ht, ?_⟩
    rw [mov_sv hs, mov_sv ht]
    exact h

set_option maxHeartbeats 3200000 in
set_option maxRecDepth 100000 in
theorem exchanges_any {v vw : Value} {M : List (List Int)} {ws : List Int} {k i j s : Nat} {w0 w : World} [Ext w0 w] (hW : IsWorks w0 v M (confs M.length k 0)) (hw : IsInts w0 vw ws) (hn : M.length ≤ 6) (hk : k ≤ 3) (hi : i < (confs M.length k 0).length) (hj : j < (confs M.length k 0).length) (hs : s < k) (hlw : ws.length = (confs M.length k 0).length) (hwb : ∀ j, j < (confs M.length k 0).length → 0 ≤ nth ws j ∧ nth ws j ≤ 1000000) :
    Calls Try.prog 44 #[v, vw, .int .i64 i, .int .i64 j, .int .i64 (nth (row (confs M.length k 0) i) s)] w fun e w' => e = .returned (.bool (exOk (confs M.length k 0) ws (row (confs M.length k 0) i) (row (confs M.length k 0) j) s)) ∧ Ext w w' := by
  have hW' := hW
  obtain ⟨bx, mv, pv, cv, rfl, h0, h1, h2, hR, hP, hCs⟩ := hW
  clear h0 h2 hR hCs
  have hw' := hw
  obtain ⟨dw, mw, rfl, lw⟩ := hw.form
  have hik := (row_conf hi).1
  have hpa := hid (show nth (row (confs M.length k 0) i) s ∈ row (confs M.length k 0) i from nth_mem (by omega))
  have hac := hid (row_mem hi)
  have hbc := hid (row_mem hj)
  have hres := hid (exQ_any (ws := ws) hi hj (show s < (row (confs M.length k 0) i).length by omega) (fun q hq => atR_row hq))
  have hwb' := hid hwb
  have hlw' := hid hlw
  clear hwb hlw
  replace hik := hid hik
  obtain ⟨P, hPd⟩ : ∃ p, p = confs M.length k 0 := ⟨_, rfl⟩
  rw [← hPd] at hP hpa hac hbc hres hi hj ⊢
  have hiP := hid hi
  have hjP := hid hj
  replace hPd := hid hPd
  obtain ⟨aP, cP, rfl, lP⟩ := hP.form
  obtain ⟨bP, oP, d1, m1, hdP, hc1, hi1, _⟩ := hP.at (w' := w0) hi
  cases hdP
  obtain ⟨bP2, oP2, d2, m2, hdP2, hc2, hi2, _⟩ := hP.at (w' := w0) hj
  cases hdP2
  obtain ⟨p, hp⟩ : ∃ z, z = nth (row P i) s := ⟨_, rfl⟩
  rw [← hp] at hpa hres ⊢
  replace hp := hid hp
  obtain ⟨a, had⟩ : ∃ z, z = row P i := ⟨_, rfl⟩
  obtain ⟨b, hbd⟩ : ∃ z, z = row P j := ⟨_, rfl⟩
  rw [← had] at hc1 hi1 hac hpa hres ⊢
  rw [← hbd] at hc2 hi2 hbc hres ⊢
  replace had := hid had
  replace hbd := hid hbd
  obtain ⟨W, hWd⟩ : ∃ x, x = ((((w.alloc (.cells #[.pointer (some ⟨bx, 0, none⟩)] 61)).alloc (.cells #[.slice dw ws.length mw] 25)).alloc (.cells #[.int .i64 i] 3)).alloc (.cells #[.int .i64 j] 3)).alloc (.cells #[.int .i64 p] 3) := ⟨_, rfl⟩
  have eW : Ext w W := by rw [hWd]; infer_instance
  have k0 : W.cell? ⟨w.heap.size, 0, none⟩ = some (.pointer (some ⟨bx, 0, none⟩)) := by rw [hWd]; go_simp
  have k1 : W.cell? ⟨w.heap.size + 1, 0, none⟩ = some (.slice dw ws.length mw) := by rw [hWd]; go_simp
  have k2 : W.cell? ⟨w.heap.size + 1 + 1, 0, none⟩ = some (.int .i64 i) := by rw [hWd]; go_simp
  have k3 : W.cell? ⟨w.heap.size + 1 + 1 + 1, 0, none⟩ = some (.int .i64 j) := by rw [hWd]; go_simp
  have k4 : W.cell? ⟨w.heap.size + 1 + 1 + 1 + 1, 0, none⟩ = some (.int .i64 p) := by rw [hWd]; go_simp
  have e0W : Ext w0 W := Ext.trans ‹Ext w0 w› eW
  go_enter Try.func44, Try.ntmps44
  go_upto_region 1 with fail
  rw [← hWd]
  generalize w.heap.size + 1 + 1 + 1 + 1 = g6 at *
  generalize w.heap.size + 1 + 1 + 1 = g3 at *
  generalize w.heap.size + 1 + 1 = g2 at *
  generalize w.heap.size + 1 = g1 at *
  generalize w.heap.size = g4 at *
  clear hWd
  go_cut [11, 12] (fun q1 q2 wx => ∃ g5 g7, q1 = .pointer (some ⟨g5, 0, none⟩) ∧ q2 = .pointer (some ⟨g7, 0, none⟩) ∧ wx.cell? ⟨g5, 0, none⟩ = some (.slice d1 a.length m1) ∧ wx.cell? ⟨g7, 0, none⟩ = some (.slice d2 b.length m2) ∧ Ext W wx)
  case first =>
    have y1 := e0W.cell h1
    have y2 := e0W.cell hc1
    have y3 := e0W.cell hc2
    have hSx := hid (show ∀ u, Ext W u → Ext W u ∧ u.cell? ⟨g4, 0, none⟩ = some (.pointer (some ⟨bx, 0, none⟩)) ∧ u.cell? ⟨bx, 1, none⟩ = some (.slice (some ⟨bP, oP, none⟩) P.length cP) ∧ u.cell? ⟨g2, 0, none⟩ = some (.int .i64 i) ∧ u.cell? ⟨g3, 0, none⟩ = some (.int .i64 j) ∧ u.cell? ⟨bP, oP + i, none⟩ = some (.slice d1 a.length m1) ∧ u.cell? ⟨bP, oP + j, none⟩ = some (.slice d2 b.length m2) from fun u e => ⟨e, e.cell k0, e.cell y1, e.cell k2, e.cell k3, e.cell y2, e.cell y3⟩)
    go_region_held3 (fun w' => Ext W w' ∧ w'.cell? ⟨g4, 0, none⟩ = some (.pointer (some ⟨bx, 0, none⟩)) ∧ w'.cell? ⟨bx, 1, none⟩ = some (.slice (some ⟨bP, oP, none⟩) P.length cP) ∧ w'.cell? ⟨g2, 0, none⟩ = some (.int .i64 i) ∧ w'.cell? ⟨g3, 0, none⟩ = some (.int .i64 j) ∧ w'.cell? ⟨bP, oP + i, none⟩ = some (.slice d1 a.length m1) ∧ w'.cell? ⟨bP, oP + j, none⟩ = some (.slice d2 b.length m2))
      ((refine hSx.out _ ?_; (first | infer_instance | (refine Ext.set ?_ _; simp) | (refine Ext.set ?_ _; simp; omega) | (refine @Ext.set _ _ (@Ext.set _ _ inferInstance _ ?_ _) _ ?_ _ <;> simp)))) (fail)
    all_goals
      go_wp2_with fail
      go_meet
      exact ⟨_, _, rfl, rfl, by go_simp, by go_simp, inferInstance⟩
  case rest =>
    obtain ⟨g5, g7, rfl, rfl, k5, k7, ecut⟩ := hcut
    have z1 := ecut.cell k1
    have z2 := ecut.cell k2
    have z3 := ecut.cell k3
    have z4 := ecut.cell k0
    have z6 := ecut.cell k4
    have e0c : Ext w0 wc := Ext.trans e0W ecut
    have hall := hid (show ∀ (U : World), Ext wc U → ∀ t, t < b.length → Calls Try.prog 83 (#[.int .i64 (nth b t)] ++ #[.pointer (some ⟨g1, 0, none⟩), .pointer (some ⟨g2, 0, none⟩), .pointer (some ⟨g3, 0, none⟩), .pointer (some ⟨g4, 0, none⟩), .pointer (some ⟨g5, 0, none⟩), .pointer (some ⟨g6, 0, none⟩), .pointer (some ⟨g7, 0, none⟩)]) U fun e w' => e = .returned (.bool (exQ P ws a b (nth ws i) (nth ws j) p (nth b t))) ∧ Ext U w' from fun U eU t ht => by
      have e0U : Ext w0 U := Ext.trans e0c eU
      rw [hPd.out]
      exact exch1_any (w0 := w0) (k := k) hW' hw' hi1 hi2 hn hk (by rw [← hPd.out]; exact hac.out) (by rw [← hPd.out]; exact hbc.out) hpa.out (nth_mem ht) (by rw [← hPd.out]; exact hiP.out) (by rw [← hPd.out]; exact hjP.out) hlw'.out hwb'.out (eU.cell z1) (eU.cell z2) (eU.cell z3) (eU.cell z4) (eU.cell k5) (eU.cell z6) (eU.cell k7))
    have hbI := hi2.ext (w' := wc)
    clear z1 z2 z3 z4 z6 k0 k1 k2 k3 k4
    go_wp2_with fail
    refine (containsFuncInts_any (w0 := wc) (w := wc) hbI _ _ (exQ P ws a b (nth ws i) (nth ws j) p) exch1_call hall.out).mono ?_
    rw [hres.out]
    rintro e w9 ⟨rfl, e9⟩
    go_wp2_with fail
    go_ret
    exact ⟨rfl, Ext.trans eW (Ext.trans ecut e9)⟩
end Go.Proofs.Ytmgcfnciejfpbaa

/- The first break of the exchanges, the program's. -/
namespace Go.Proofs.Ytmgcfnciejfpbaa
open Go.RowKit

set_option maxHeartbeats 3200000 in
set_option maxRecDepth 100000 in
theorem implExb_any {v vw : Value} {M : List (List Int)} {ws : List Int} {k : Int} {w0 w : World} [Ext w0 w] (hm : IsMet w0 v M) (_hk : I64 k) (hw : IsInts w0 vw ws) :
    Calls Try.prog 10 #[v, .int .i64 k, vw] w fun e w' => ∃ d0 m0 d1 m1, e = .returned (.tuple #[.slice d0 (exbX M k ws).length m0, .slice d1 (exbY M k ws).length m1, .int .i64 (exbP M k ws), .bool (exbB M k ws)]) ∧ Own w' w.heap.size ([intRowOf 3 (.slice d0 (exbX M k ws).length m0) (exbX M k ws)] ++ [intRowOf 3 (.slice d1 (exbY M k ws).length m1) (exbY M k ws)]) ∧ Ext w w' := by
  have hm' := hm
  obtain ⟨v1, rfl, hR⟩ := hm
  obtain ⟨a1, c1, rfl, l1⟩ := hR.form
  have hw' := hw
  obtain ⟨dw, mw, rfl, lw⟩ := hw.form
  have hcond : (metB M && (inB k 1 3 && workB M (confs M.length k.toNat 0) ws)) = (askB M k && workB M (confs M.length k.toNat 0) ws) := by rw [askB, Bool.and_assoc]
  cases hG : (askB M k && workB M (confs M.length k.toNat 0) ws) with
  | false =>
    have hr := hid (exb_none (show exbO M k ws = none by rw [exbO, hcond, hG]; rfl))
    clear hcond
    replace hG := hid hG
    go_enter Try.func10, Try.ntmps10
    go_wp2_with fail
    with_reducible refine (worksFor_any (w0 := w0) hm' hw').mono ?_
    rw [hG.out]
    rintro e w1 ⟨u, rfl, _, e1⟩
    go_wp2_with fail
    (try simp only [Exit.inBlock, Exit.then]); refine bodyPost_ret (results_tmp4 rfl _ _ _) rfl ?_
    rw [hr.out.1, hr.out.2.1, hr.out.2.2.1, hr.out.2.2.2]
    exact ⟨_, _, _, _, rfl, ((Own.nil _ _).cons_nil _ _).cons_nil _ _, Ext.trans inferInstance e1⟩
  | true =>
    have hG2 := hG
    rw [Bool.and_eq_true] at hG2
    obtain ⟨hM, hk⟩ := askB_iff.1 hG2.1
    have hwb := hG2.2
    clear hG2
    obtain ⟨kn, rfl⟩ := Int.eq_ofNat_of_zero_le (show 0 ≤ k by omega)
    rw [Int.toNat_natCast] at hwb
    have hkn : kn ≤ 3 := by omega
    have hg := hid (work_good hwb)
    have hO := hid (show exbO M kn ws = exR (confs M.length kn 0) ws kn by rw [exbO, hcond, hG, Int.toNat_natCast]; rfl)
    have hexs := hid (fun (i j s : Nat) => @exb_some M kn ws i j s)
    have hexn := hid (@exb_none M kn ws)
    rw [Int.toNat_natCast] at hexs hG
    clear hcond
    have hMl := met_len hM
    have h216 := confs_216 hMl.2 hkn
    have hPm := hid (show ∀ i, i < (confs M.length kn 0).length → (row (confs M.length kn 0) i).length = kn ∧ ∀ z ∈ row (confs M.length kn 0) i, I64 z from fun i hi => by
      obtain ⟨h1, h2, _⟩ := row_conf hi
      exact ⟨h1, pts_i64 h2 (by omega)⟩)
    have hlwc := hid hg.out.1.1
    have hwbc := hid (show ∀ j, j < (confs M.length kn 0).length → 0 ≤ nth ws j ∧ nth ws j ≤ 1000000 from fun j hj => by have := hg.out.2 j hj; omega)
    clear hM hwb
    replace hG := hid hG
    go_enter Try.func10, Try.ntmps10
    go_wp2_with fail
    with_reducible refine (worksFor_any (w0 := w0) hm' hw').mono ?_
    rw [Int.toNat_natCast, hG.out]
    rintro e wP ⟨u, rfl, hW, e1⟩
    replace hW := hW rfl
    have hW' := hW
    obtain ⟨bw, mv, pv, cv, rfl, _, h1, _, _, hP, _⟩ := hW
    have ePw : Ext w wP := Ext.trans inferInstance e1
    have e0P : Ext w0 wP := Ext.trans ‹Ext w0 w› ePw
    clear e1
    have hwP := hw'.ext (w' := wP)
    obtain ⟨P, hPd⟩ : ∃ p, p = confs M.length kn 0 := ⟨_, rfl⟩
    have hexc := hid (fun (U : World) (e : Ext wP U) (i j s : Nat) (hi : i < (confs M.length kn 0).length) (hj : j < (confs M.length kn 0).length) (hs : s < kn) => exchanges_any (w0 := wP) (w := U) hW' hwP hMl.2 hkn hi hj hs hlwc.out hwbc.out)
    rw [← hPd] at hP hPm h216 hO hexs hexc
    have hhit := hid (fun (i j s : Nat) => @exR_hit P ws kn i j s)
    have hmiss := hid (@exR_miss P ws kn)
    replace hPd := hid hPd
    obtain ⟨aP, cP, rfl, lP⟩ := hP.form
    go_wp2_with fail
    go_loopw [32] (fun i wr => ∃ q : Nat, q ≤ P.length ∧ i = .int .i64 q ∧ Hid (∀ z, z < q → exS1 P ws kn z = none) ∧ Ext wP wr) (fun i _ => P.length - (intOf i).toNat)
    case atStart => exact ⟨0, by omega, rfl, fun z hz => by omega, Ext.refl _⟩
    case round =>
      obtain ⟨i, hi, rfl, hno1, hx1⟩ := hrel
      obtain ⟨wo, rfl⟩ : ∃ z : World, z = wr := ⟨_, rfl⟩
      by_cases hlti : i < P.length
      · obtain ⟨bP, oP, d1, m1, hdP, hc1, hi1, _⟩ := hP.at (w' := wo) hlti
        cases hdP
        have hxl := hPm.out i hlti
        have y1 := hx1.cell h1
        have hxl2 := hid hxl.2
        have hxk := hid hxl.1
        clear hxl
        obtain ⟨a, had⟩ : ∃ z, z = row P i := ⟨_, rfl⟩
        rw [← had] at hc1 hi1 hxl2 hxk
        replace had := hid had
        have hak3 : a.length ≤ 3 := by rw [hxk.out]; exact hkn
        go_wp2_with fail
        go_loopw [42] (fun i' wr => ∃ q : Nat, q ≤ P.length ∧ i' = .int .i64 q ∧ Hid (∀ z, z < q → exS2 P ws kn i z = none) ∧ Ext wP wr) (fun i' _ => P.length - (intOf i').toNat)
        case atStart => exact ⟨0, by omega, rfl, fun z hz => by omega, hx1⟩
        case round =>
          obtain ⟨j, hj, rfl, hno2, hx2⟩ := hrel
          obtain ⟨wp, rfl⟩ : ∃ z : World, z = wr := ⟨_, rfl⟩
          by_cases hltj : j < P.length
          · obtain ⟨bP2, oP2, d2, m2, hdP2, hc2, hi2, _⟩ := hP.at (w' := wp) hltj
            cases hdP2
            have hyl := hPm.out j hltj
            have hyl2 := hid hyl.2
            have hyk := hid hyl.1
            clear hyl
            obtain ⟨b, hbd⟩ : ∃ z, z = row P j := ⟨_, rfl⟩
            rw [← hbd] at hc2 hi2 hyl2 hyk
            replace hbd := hid hbd
            have hbk3 : b.length ≤ 3 := by rw [hyk.out]; exact hkn
            go_wp2_with fail
            go_loopw [49] (fun i' wr => ∃ q : Nat, q ≤ a.length ∧ i' = .int .i64 q ∧ Hid (∀ z, z < q → exS3 P ws i j z = none) ∧ Ext wP wr) (fun i' _ => a.length - (intOf i').toNat)
            case atStart => exact ⟨0, by omega, rfl, fun z hz => by omega, hx2⟩
            case round =>
              obtain ⟨s, hs, rfl, hno3, hx3⟩ := hrel
              obtain ⟨wq, rfl⟩ : ∃ z : World, z = wr := ⟨_, rfl⟩
              by_cases hlts : s < a.length
              · have hsk : s < kn := by rw [← hxk.out]; exact hlts
                have e0q : Ext w0 wq := Ext.trans e0P hx3
                obtain ⟨bx1, ox1, hdx, hcs⟩ := hi1.at (w' := wq) hlts
                cases hdx
                have hcall := hexc.out wq hx3 i j s hlti hltj hsk
                cases hok0 : exOk P ws (row P i) (row P j) s with
                | true =>
                  rw [hok0, ← had.out] at hcall
                  have hno4 := hid (show ∀ z, z < s + 1 → exS3 P ws i j z = none from fun z hz => by
                    by_cases e : z = s
                    · rw [e]; exact exS3_ok hok0
                    · exact hno3.out z (by omega))
                  clear hok0
                  generalize nth a s = p at *
                  replace hcall := hid hcall
                  go_wp2_with fail
                  with_reducible refine hcall.out.mono ?_
                  rintro e w5 ⟨rfl, e5⟩
                  go_wp2_with fail
                  go_roundw
                  case rel => exact ⟨s + 1, by omega, by go_num, hno4.out, Ext.trans hx3 e5⟩
                  case measure => simp [intOf]; omega
                | false =>
                  rw [hok0, ← had.out] at hcall
                  have hfin := hid (hexs.out i j s (by rw [hO.out]; exact hhit.out i j s hno1.out hno2.out hno3.out hlti hltj hsk hok0))
                  clear hok0
                  rw [← had.out, ← hbd.out] at hfin
                  generalize nth a s = p at *
                  replace hcall := hid hcall
                  go_wp2_with fail
                  with_reducible refine hcall.out.mono ?_
                  rintro e w5 ⟨rfl, e5⟩
                  have ePw5 : Ext wP w5 := Ext.trans hx3 e5
                  have hA5 := hi1.ext (w' := w5) (e := ePw5)
                  have hB5 := hi2.ext (w' := w5) (e := ePw5)
                  go_wp2_with fail
                  with_reducible refine (cloneInts_any (w0 := w5) (w := w5) hA5).mono ?_
                  rintro e w6 ⟨d6, m6, rfl, own6, e6⟩
                  have hB6 := hB5.ext (w' := w6)
                  go_wp2_with fail
                  with_reducible refine (cloneInts_any (w0 := w6) (w := w6) hB6).mono ?_
                  rintro e w7 ⟨d7, m7, rfl, own7, e7⟩
                  have own := (Own.join own6 own7 (hB := e6.size)).swap
                  go_wp2_with fail
                  (try simp only [Exit.inBlock, Exit.then]); refine bodyPost_ret (results_tmp4 rfl _ _ _) rfl ?_
                  rw [hfin.out.1, hfin.out.2.1, hfin.out.2.2.1, hfin.out.2.2.2]
                  exact ⟨_, _, _, _, rfl, own.mono (Nat.le_trans ePw.size ePw5.size), Ext.trans ePw (Ext.trans ePw5 (Ext.trans e6 e7))⟩
              · have hsk : s = kn := by rw [← hxk.out]; omega
                have hno4 := hid (show ∀ z, z < j + 1 → exS2 P ws kn i z = none from fun z hz => by
                  by_cases e : z = j
                  · rw [e]; exact fst_none fun q hq => hno3.out q (by omega)
                  · exact hno2.out z (by omega))
                replace hsk := hid hsk
                go_wp2_with fail
                go_roundw
                case rel => exact ⟨j + 1, by omega, by go_num, hno4.out, hx3⟩
                case measure => simp [intOf]; omega
          · have hjn : j = P.length := by omega
            have hno4 := hid (show ∀ z, z < i + 1 → exS1 P ws kn z = none from fun z hz => by
              by_cases e : z = i
              · rw [e]; exact fst_none fun q hq => hno2.out q (by omega)
              · exact hno1.out z (by omega))
            replace hjn := hid hjn
            go_wp2_with fail
            go_roundw
            case rel => exact ⟨i + 1, by omega, by go_num, hno4.out, hx2⟩
            case measure => simp [intOf]; omega
      · have hfin := hid (hexn.out (by rw [hO.out]; exact hmiss.out fun q hq => hno1.out q (by omega)))
        go_wp2_with fail
        (try simp only [Exit.inBlock, Exit.then]); refine bodyPost_ret (results_tmp4 rfl _ _ _) rfl ?_
        rw [hfin.out.1, hfin.out.2.1, hfin.out.2.2.1, hfin.out.2.2.2]
        exact ⟨_, _, _, _, rfl, ((Own.nil _ _).cons_nil _ _).cons_nil _ _, Ext.trans ePw hx1⟩
end Go.Proofs.Ytmgcfnciejfpbaa

/- The laws' own helpers on metrics: a struct of one field, the rows of distances. -/
namespace Go.Proofs.Ytmgcfnciejfpbaa
open Go.RowKit

theorem Own.met' {w w0 : World} {B e1 e2 : Nat} {u1 v0 : Value} {vs1 : List Value} {M : List (List Int)} (h : Own w B (rowsOf e1 e2 u1 vs1 M)) (h1 : vs1.length = M.length) (hp : IsMet w0 v0 M) : IsMet w (.agg #[u1]) M := by
  obtain ⟨_, _, hM⟩ := hp
  have h' : Own w B (rowsOf e1 e2 u1 vs1 M ++ []) := by rw [List.append_nil]; exact h
  exact ⟨u1, rfl, h'.readsAll h1 hM.all.1 hM.all.2.1 hM.all.2.2⟩

set_option maxHeartbeats 400000 in
theorem szMetric_any {v : Value} {M : List (List Int)} {left : Int} {w0 w : World} [Ext w0 w] (hp : IsMet w0 v M) (h0 : 0 ≤ left) (h1 : left ≤ 2000000) :
    Calls Try.prog 6 #[v, .int .i64 left] w fun y w' => y = .returned (.int .i64 (leftOf left (M.length + sumLen M))) ∧ Ext w w' := by
  obtain ⟨v1, rfl, hM⟩ := hp
  obtain ⟨a1, c1, rfl, l1⟩ := hM.form
  by_cases h : left - (M.length + sumLen M : Nat) < 0
  · have e1 := hid (show leftOf left (M.length + sumLen M) = -1 by rw [leftOf, if_pos h])
    go_enter Try.func6, Try.ntmps6
    go_wp2_with fail
    refine (szIntSS_any (w0 := w0) hM h0 h1).mono ?_
    rw [e1.out]; rintro e w' ⟨rfl, rfl⟩
    go_wp2_with fail
    go_ret
    exact ⟨ret_int e1.out.symm, inferInstance⟩
  · have e1 := hid (show leftOf left (M.length + sumLen M) = left - (M.length + sumLen M : Nat) by rw [leftOf, if_neg h])
    have h0' : 0 ≤ left - (M.length + sumLen M : Nat) := by omega
    generalize hr : left - (M.length + sumLen M : Nat) = r at *
    replace hr := hid hr
    go_enter Try.func6, Try.ntmps6
    go_wp2_with fail
    refine (szIntSS_any (w0 := w0) hM h0 h1).mono ?_
    rw [e1.out]; rintro e w' ⟨rfl, rfl⟩
    go_wp2_with fail
    go_ret
    exact ⟨ret_int e1.out.symm, inferInstance⟩

set_option maxHeartbeats 800000 in
theorem toMetric_any {v : Value} {M : List (List Int)} {w0 w : World} [Ext w0 w] (hp : IsMet w0 v M) :
    Calls Try.prog 8 #[v] w fun e w' => ∃ d1 m1 vs1, e = .returned (.agg #[.slice d1 M.length m1]) ∧ vs1.length = M.length ∧
      Own w' w.heap.size (rowsOf 25 3 (.slice d1 M.length m1) vs1 M) ∧ Ext w w' := by
  obtain ⟨v1, rfl, hM⟩ := hp
  obtain ⟨a1, c1, rfl, l1⟩ := hM.form
  go_enter Try.func8, Try.ntmps8
  go_wp2_with fail
  refine (toIntSS_any (w0 := w0) hM).mono ?_
  rintro e w1 ⟨d1, m1, vs1, rfl, hl1, hown1, hb1⟩
  have c2 : w1.cell? ⟨w.heap.size + 1, 0, none⟩ = some (.slice none 0 0) := hb1.cell (by go_simp)
  have c4 : w1.cell? ⟨w.heap.size + 1 + 1, 0, none⟩ = some (.slice none 0 0) := hb1.cell (by go_simp)
  have f2 : w1.frozen? ⟨w.heap.size + 1, 0, none⟩ = false := hb1.frozen (v := .slice none 0 0) (by go_simp) (by go_simp)
  have f4 : w1.frozen? ⟨w.heap.size + 1 + 1, 0, none⟩ = false := hb1.frozen (v := .slice none 0 0) (by go_simp) (by go_simp)
  have hs1 := hb1.size
  simp only [World.size_alloc] at hs1 hown1
  have e1 : Ext w w1 := Ext.trans inferInstance hb1
  go_wp2_with fail
  refine bodyPost_ret (v := .agg #[.slice d1 M.length m1]) (by simp [results, Try.results8, go_sem, c2]) rfl ⟨d1, m1, vs1, rfl, hl1, ?_, ?_⟩
  · exact ((hown1.setBelow (p := ⟨w.heap.size + 1 + 1, 0, none⟩) (Nat.lt_succ_self _) _).setBelow (p := ⟨w.heap.size + 1, 0, none⟩) (Nat.lt_succ_of_lt (Nat.lt_succ_self _)) _).mono (by omega)
  · exact @Ext.set _ _ (@Ext.set _ _ e1 _ (by simp; omega) _) _ (by simp) _

set_option maxHeartbeats 400000 in
theorem eqMetric_any {v u : Value} {M M' : List (List Int)} {w0 w : World} [Ext w0 w] (hp : IsMet w0 v M) (hq : IsMet w0 u M') :
    Calls Try.prog 12 #[v, u] w fun e w' => e = .returned (.bool (eqR M M')) ∧ Ext w w' := by
  obtain ⟨v1, rfl, hM⟩ := hp
  obtain ⟨u1, rfl, hM'⟩ := hq
  obtain ⟨a1, c1, rfl, l1⟩ := hM.form
  obtain ⟨a3, c3, rfl, l3⟩ := hM'.form
  cases he : eqR M M' with
  | false =>
    replace he := hid he
    go_enter Try.func12, Try.ntmps12
    go_wp2_with fail
    refine (eqIntSS_any (w0 := w0) hM hM').mono ?_
    rw [he.out]; rintro e w' ⟨rfl, n, rfl⟩
    go_wp2_with fail
    go_ret
    exact ⟨rfl, inferInstance⟩
  | true =>
    replace he := hid he
    go_enter Try.func12, Try.ntmps12
    go_wp2_with fail
    refine (eqIntSS_any (w0 := w0) hM hM').mono ?_
    rw [he.out]; rintro e w' ⟨rfl, n, rfl⟩
    go_wp2_with fail
    go_ret
    exact ⟨rfl, inferInstance⟩

set_option maxHeartbeats 400000 in
theorem markMetric_any {e1 e2 : Nat} {v1 : Value} {vs1 : List Value} {M : List (List Int)} {k : Int} {w : World} {B : Nat} {R : List Row}
    (hown : Own w B (rowsOf e1 e2 v1 vs1 M ++ R)) (hl1 : vs1.length = M.length) (hB : B ≤ w.heap.size)
    (hs1 : sumLen M ≤ 2000000) (hm1 : M.length ≤ 2000000) (hk0 : 0 ≤ k) (hk1 : k ≤ 2000000) :
    Calls Try.prog 13 #[.agg #[v1], .int .i64 k] w fun y w' => y = .returned (.int .i64 (k + sumLen M)) ∧ Own w' B (rowsOf e1 e2 v1 vs1 (markR M k) ++ R) ∧ Below B w w' := by
  obtain ⟨a, c, hv⟩ := Own.form (r := valRowOf e1 v1 vs1) (by simpa [rowsOf] using hown)
  have hv' : v1 = .slice a M.length c := by rw [← hl1]; exact hv
  clear hv
  subst hv'
  have hbox := (hown.lit 29 1 1 #[.slice a M.length c] hB (by decide) rfl).perm (S := rowsOf e1 e2 (.slice a M.length c) vs1 M ++ (_ :: R)) List.perm_middle
  go_enter Try.func13, Try.ntmps13
  go_wp2_with fail
  refine (markIntSS_any hbox hl1 (by simp; omega) (by omega) (by omega) hk0 (by omega)).mono ?_
  rintro e w1 ⟨rfl, hn1, hb1⟩
  have hd := hn1.perm (S := _ :: (rowsOf e1 e2 (.slice a M.length c) vs1 (markR M k) ++ R)) List.perm_middle.symm
  clear hbox hn1
  go_wp2_with fail
  go_ret
  exact ⟨rfl, hd.tail, ((Below.refl _ _).alloc hB _).trans hb1⟩
end Go.Proofs.Ytmgcfnciejfpbaa

/- 'laws.FnExactExchangeBreak' walked: it returns true for every input. Written by lawgen2.py. -/
namespace Go.Proofs.Ytmgcfnciejfpbaa
open Go.RowKit

set_option maxHeartbeats 3200000 in
set_option maxRecDepth 100000 in
theorem lawFnExactExchangeBreak_any {v0 : Value} {M0 : List (List Int)} {n1 : Int} {v2 : Value} {X2 : List Int} {w : World} (a0 : IsMet w v0 M0) (a1 : I64 n1) (a2 : IsInts w v2 X2) :
    Calls Try.prog 3 #[v0, .int .i64 n1, v2] w fun e w' => e = .returned (.bool true) ∧ Ext w w' := by
  have b0 := a0
  obtain ⟨v0a, rfl, hM0⟩ := b0
  obtain ⟨f0a, c0a, rfl, l0a⟩ := hM0.form
  clear hM0
  obtain ⟨f2, c2, rfl, l2⟩ := a2.form
  by_cases g2 : (1048576 : Int) < X2.length
  · have g2' : decide ((1048576 : Int) < X2.length) = true := by simpa using g2
    go_enter Try.func3, Try.ntmps3
    go_wp2_with fail
    go_ret
    exact ⟨rfl, inferInstance⟩
  · have g2' : decide ((1048576 : Int) < X2.length) = false := by simpa using g2
    by_cases g0 : (1048576 : Int) - ((M0.length + sumLen M0) : Nat) < 0
    · have gl0 := hid (show leftOf 1048576 (M0.length + sumLen M0) = -1 by rw [leftOf, if_pos g0])
      go_enter Try.func3, Try.ntmps3
      go_wp2_with fail
      refine (szMetric_any (w0 := w) a0 (by omega) (by omega)).mono ?_
      rw [gl0.out]; rintro e wz ⟨rfl, hb⟩
      go_wp2_with fail
      go_ret
      exact ⟨rfl, Ext.trans inferInstance hb⟩
    · have gl0 := hid (show leftOf 1048576 (M0.length + sumLen M0) = 1048576 - ((M0.length + sumLen M0) : Nat) by rw [leftOf, if_neg g0])
      have gn0 : 0 ≤ (1048576 : Int) - ((M0.length + sumLen M0) : Nat) := by omega
      have gm0 : (1048576 : Int) - ((M0.length + sumLen M0) : Nat) ≤ 1048576 := by omega
      have hsm0 : (M0.length + sumLen M0) ≤ 1048576 := by omega
      generalize hz0 : (1048576 : Int) - ((M0.length + sumLen M0) : Nat) = z0 at *
      replace hz0 := hid hz0
      clear g0
      replace hsm0 := hid hsm0
      -- all sizes are right
      have heq := hid (show eqR M0 M0 = true from eqR_iff.2 rfl)
      have heq2 := hid (show eqL X2 X2 = true from eqL_iff.2 rfl)
      go_enter Try.func3, Try.ntmps3
      go_wp2_with fail
      refine (szMetric_any (w0 := w) a0 (by omega) (by omega)).mono ?_
      rw [gl0.out]; rintro e w1 ⟨rfl, hb⟩
      have x0 : w1.cell? ⟨w.heap.size, 0, none⟩ = some (.slice f0a M0.length c0a) := hb.cell (by go_simp)
      have e1 : Ext w w1 := Ext.trans inferInstance hb
      clear hb
      replace a0 := a0.ext (w' := w1)
      replace a2 := a2.ext (w' := w1)
      go_wp2_with fail
      refine (toMetric_any (w0 := w1) a0).mono ?_
      rintro e w2 ⟨s0_d, s0_m, s0_vs, rfl, s0_l, s0_own, hb⟩
      have s0 := s0_own.met' s0_l a0
      clear s0_own
      have hbw2 : Ext w1 w2 := Ext.trans inferInstance hb
      replace x0 := hbw2.cell x0
      replace a0 := a0.ext (w' := w2)
      replace a2 := a2.ext (w' := w2)
      replace e1 := Ext.trans e1 hbw2
      go_wp2_with fail
      refine (toIntS_any (w0 := w2) a2).mono ?_
      rintro e w3 ⟨s2_d, s2_m, rfl, s2_own, hb⟩
      have s2 := s2_own.reads' a2
      clear s2_own
      have hbw3 : Ext w2 w3 := Ext.trans inferInstance hb
      replace x0 := hbw3.cell x0
      replace a0 := a0.ext (w' := w3)
      replace a2 := a2.ext (w' := w3)
      replace s0 := s0.ext (w' := w3)
      replace e1 := Ext.trans e1 hbw3
      go_wp2_with fail
      refine (specExb_any (w0 := w3) s0 a1 s2).mono ?_
      rintro e w4 ⟨z0_d, z0_m, z1_d, z1_m, rfl, z0, z1, hb⟩
      have hbw4 : Ext w3 w4 := Ext.trans inferInstance hb
      replace x0 := hbw4.cell x0
      replace a0 := a0.ext (w' := w4)
      replace a2 := a2.ext (w' := w4)
      replace s0 := s0.ext (w' := w4)
      replace s2 := s2.ext (w' := w4)
      replace e1 := Ext.trans e1 hbw4
      clear s0 s2
      have EB : Ext w4 w4 := Ext.refl w4
      have hBo : w4.heap.size ≤ w4.heap.size := Nat.le_refl _
      have x0_4 := EB.cell x0
      go_wp2_with fail
      refine (toMetric_any (w0 := w4) a0).mono ?_
      rintro e w5 ⟨x_0_d, x_0_m, x_0_vs, rfl, x_0_l, x_0_own, hb⟩
      have x_0 := x_0_own.met' x_0_l a0
      have OW := x_0_own
      clear x_0_own
      try simp only [List.append_assoc] at OW
      have hbw5 : Ext w4 w5 := Ext.trans inferInstance hb
      replace EB := Ext.trans EB hbw5
      replace hBo : w4.heap.size ≤ w5.heap.size := EB.size
      go_wp2_with fail
      refine (toIntS_any (w0 := w4) a2).mono ?_
      rintro e w6 ⟨x_2_d, x_2_m, rfl, x_2_own, hb⟩
      have x_2 := x_2_own.reads' a2
      replace OW := Own.add x_2_own OW hb hBo
      clear x_2_own
      try simp only [List.append_assoc] at OW
      have hbw6 : Ext w5 w6 := Ext.trans inferInstance hb
      have y0 : w6.cell? ⟨w5.heap.size, 0, none⟩ = some (.slice x_0_d M0.length x_0_m) := hb.cell (by go_simp)
      replace x_0 := x_0.ext (w' := w6)
      replace EB := Ext.trans EB hbw6
      replace hBo : w4.heap.size ≤ w6.heap.size := EB.size
      go_wp2_with fail
      refine (implExb_any (w0 := w6) x_0 a1 x_2).mono ?_
      rintro e w7 ⟨g0_d, g0_m, g1_d, g1_m, rfl, g_own, hb⟩
      replace OW := Own.add g_own OW hb hBo
      clear g_own
      try simp only [List.append_assoc] at OW
      have hbw7 : Ext w6 w7 := Ext.trans inferInstance hb
      replace y0 := hbw7.cell y0
      replace x_0 := x_0.ext (w' := w7)
      replace x_2 := x_2.ext (w' := w7)
      replace EB := Ext.trans EB hbw7
      replace hBo : w4.heap.size ≤ w7.heap.size := EB.size
      have hbd0 := hid ((exb_len (M := M0) (k := n1) (ws := X2)).1)
      generalize hr0 : (exbX M0 n1 X2) = r0 at *
      replace hr0 := hid hr0
      have hq0 := hid (show eqL r0 r0 = true from eqL_iff.2 rfl)
      have hbd1 := hid ((exb_len (M := M0) (k := n1) (ws := X2)).2)
      generalize hr1 : (exbY M0 n1 X2) = r1 at *
      replace hr1 := hid hr1
      have hq1 := hid (show eqL r1 r1 = true from eqL_iff.2 rfl)
      generalize hr2 : (exbP M0 n1 X2) = r2 at *
      replace hr2 := hid hr2
      have hn2 : (r2 != r2) = false := by simp
      generalize hr3 : (exbB M0 n1 X2) = r3 at *
      replace hr3 := hid hr3
      have hn3 : (r3 != r3) = false := by simp
      have EX : Ext w7 w7 := Ext.refl w7
      replace OW := Own.nilr OW
      simp only [List.append_assoc] at OW
      have rd0_7 := (Own.one OW).reads' z0
      go_wp2_with fail
      refine (eqIntS_any (w0 := w7) rd0_7 (z0.ext (w' := w7))).mono ?_
      rw [hq0.out]
      rintro e w8 ⟨rfl, hdr⟩
      have hb := hdr.ext
      clear hdr
      have hbw8 : Ext w7 w8 := Ext.trans inferInstance hb
      replace y0 := hbw8.cell y0
      replace EB := Ext.trans EB hbw8
      replace EX := Ext.trans EX hbw8
      replace OW := OW.ext (w' := w8)
      replace OW := Own.rot OW
      simp only [List.append_assoc] at OW
      have rd1_8 := (Own.one OW).reads' z1
      go_wp2_with fail
      refine (eqIntS_any (w0 := w8) rd1_8 (z1.ext (w' := w8))).mono ?_
      rw [hq1.out]
      rintro e w9 ⟨rfl, hdr⟩
      have hb := hdr.ext
      clear hdr
      have hbw9 : Ext w8 w9 := Ext.trans inferInstance hb
      replace y0 := hbw9.cell y0
      replace EB := Ext.trans EB hbw9
      replace EX := Ext.trans EX hbw9
      replace OW := OW.ext (w' := w9)
      have x0_9 := EB.cell x0
      go_upto_region 13 with fail
      go_cut [81] (fun q wx => q = .bool false ∧ Ext w9 wx)
      case first =>
        go_region_with (first
          | (go_at_call 8; refine (toMetric_any (w0 := w4) a0).mono ?_; rintro e wq ⟨qd, qm, qvs, rfl, ql, qown, hq⟩; have pq := qown.met' ql a0; have eq : Ext w9 wq := Ext.trans inferInstance hq; have y0' := eq.cell y0; have EXq := Ext.trans EX eq)
          | (go_at_call 12; refine (eqMetric_any (w0 := wq) (x_0.ext (w' := wq)) pq).mono ?_; rw [heq.out]; rintro e wq2 ⟨rfl, hq2⟩))
        all_goals
          go_wp2_with fail
          go_meet
          exact ⟨rfl, Ext.trans eq hq2⟩
      case rest =>
        obtain ⟨rfl, hbc⟩ := hcut
        have hb : Ext w9 wc := hbc
        clear hbc
        obtain ⟨w10, rfl⟩ : ∃ x : World, x = wc := ⟨_, rfl⟩
        have hbw10 : Ext w9 w10 := Ext.trans inferInstance hb
        replace y0 := hbw10.cell y0
        replace EB := Ext.trans EB hbw10
        replace EX := Ext.trans EX hbw10
        replace OW := OW.ext (w' := w10)
        go_wp2_with fail
        refine (toIntS_any (w0 := w4) a2).mono ?_
        rintro e w11 ⟨q2_d, q2_m, rfl, q2_own, hb⟩
        have q2 := q2_own.reads' a2
        clear q2_own
        have hbw11 : Ext w10 w11 := Ext.trans inferInstance hb
        replace y0 := hbw11.cell y0
        replace EB := Ext.trans EB hbw11
        replace EX := Ext.trans EX hbw11
        replace OW := OW.ext (w' := w11)
        go_wp2_with fail
        refine (eqIntS_any (w0 := w11) (x_2.ext (w' := w11)) q2).mono ?_
        rw [heq2.out]
        rintro e w12 ⟨rfl, hdr⟩
        have hb := hdr.ext
        clear hdr
        have hbw12 : Ext w11 w12 := Ext.trans inferInstance hb
        replace y0 := hbw12.cell y0
        replace q2 := q2.ext (w' := w12)
        replace EB := Ext.trans EB hbw12
        replace EX := Ext.trans EX hbw12
        replace OW := OW.ext (w' := w12)
        clear q2
        -- the marks
        replace hBo : w4.heap.size ≤ w12.heap.size := EB.size
        have hsz0 := hsm0.out
        have hsz2 := (show X2.length ≤ 1048576 by omega)
        go_wp2_with fail
        replace OW := Own.rot OW
        simp only [List.append_assoc] at OW
        replace OW := Own.rot OW
        simp only [List.append_assoc] at OW
        refine (markMetric_any (k := 1) OW x_0_l hBo (by omega) (by omega) (by omega) (by omega)).mono ?_
        rintro e w13 ⟨rfl, OW', hbm⟩
        replace OW := OW'
        clear OW'
        replace EB := Ext.mark EB hbm
        clear hbm
        replace hBo : w4.heap.size ≤ w13.heap.size := EB.size
        obtain ⟨k1, hk1, hk1a, hk1b⟩ : ∃ x : Int, 1 + sumLen M0 = x ∧ 0 ≤ x ∧ x ≤ 1048577 := ⟨_, rfl, by omega, by omega⟩
        rw [hk1]
        clear hk1
        go_wp2_with fail
        replace OW := Own.rot OW
        simp only [List.append_assoc] at OW
        replace OW := Own.rot OW
        simp only [List.append_assoc] at OW
        replace OW := Own.rot OW
        simp only [List.append_assoc] at OW
        replace OW := Own.rot OW
        simp only [List.append_assoc] at OW
        refine (markIntS_any (k := k1) (Own.one OW) hBo (by omega) (by omega) (by omega)).mono ?_
        rintro e w14 ⟨rfl, OW', hbm⟩
        replace OW' := Own.eno OW'
        replace OW := OW'
        clear OW'
        replace EB := Ext.mark EB hbm
        clear hbm
        replace hBo : w4.heap.size ≤ w14.heap.size := EB.size
        obtain ⟨k2, hk2, hk2a, hk2b⟩ : ∃ x : Int, k1 + X2.length = x ∧ 0 ≤ x ∧ x ≤ 2097153 := ⟨_, rfl, by omega, by omega⟩
        rw [hk2]
        clear hk2
        replace OW := Own.rot OW
        simp only [List.append_assoc] at OW
        replace OW := Own.rot OW
        simp only [List.append_assoc] at OW
        replace OW := Own.rot OW
        simp only [List.append_assoc] at OW
        have rd0_14 := (Own.one OW).reads' z0
        go_wp2_with fail
        refine (eqIntS_any (w0 := w14) rd0_14 (z0.ext (w' := w14))).mono ?_
        rw [hq0.out]
        rintro e w15 ⟨rfl, hdr⟩
        have hb := hdr.ext
        clear hdr
        have hbw15 : Ext w14 w15 := Ext.trans inferInstance hb
        replace EB := Ext.trans EB hbw15
        replace OW := OW.ext (w' := w15)
        replace hBo : w4.heap.size ≤ w15.heap.size := EB.size
        replace OW := Own.rot OW
        simp only [List.append_assoc] at OW
        have rd1_15 := (Own.one OW).reads' z1
        go_wp2_with fail
        refine (eqIntS_any (w0 := w15) rd1_15 (z1.ext (w' := w15))).mono ?_
        rw [hq1.out]
        rintro e w16 ⟨rfl, hdr⟩
        have hb := hdr.ext
        clear hdr
        have hbw16 : Ext w15 w16 := Ext.trans inferInstance hb
        replace EB := Ext.trans EB hbw16
        replace OW := OW.ext (w' := w16)
        replace hBo : w4.heap.size ≤ w16.heap.size := EB.size
        -- the marks in the results
        have hbq0 := hbd0.out
        have hbq1 := hbd1.out
        go_wp2_with fail
        replace OW := Own.rot OW
        simp only [List.append_assoc] at OW
        replace OW := Own.rot OW
        simp only [List.append_assoc] at OW
        replace OW := Own.rot OW
        simp only [List.append_assoc] at OW
        replace OW := Own.rot OW
        simp only [List.append_assoc] at OW
        refine (markIntS_any (k := 1) (Own.one OW) hBo (by omega) (by omega) (by omega)).mono ?_
        rintro e w17 ⟨rfl, OW', hbm⟩
        replace OW' := Own.eno OW'
        replace OW := OW'
        clear OW'
        replace EB := Ext.mark EB hbm
        clear hbm
        replace hBo : w4.heap.size ≤ w17.heap.size := EB.size
        obtain ⟨m1, hm1, hm1a, hm1b⟩ : ∃ x : Int, 1 + r0.length = x ∧ 0 ≤ x ∧ x ≤ 1001 := ⟨_, rfl, by omega, by omega⟩
        rw [hm1]
        go_wp2_with fail
        replace OW := Own.rot OW
        simp only [List.append_assoc] at OW
        refine (markIntS_any (k := m1) (Own.one OW) hBo (by omega) (by omega) (by omega)).mono ?_
        rintro e w18 ⟨rfl, OW', hbm⟩
        replace OW' := Own.eno OW'
        replace OW := OW'
        clear OW'
        replace EB := Ext.mark EB hbm
        clear hbm
        replace hBo : w4.heap.size ≤ w18.heap.size := EB.size
        obtain ⟨m2, hm2, hm2a, hm2b⟩ : ∃ x : Int, m1 + r1.length = x ∧ 0 ≤ x ∧ x ≤ 2001 := ⟨_, rfl, by omega, by omega⟩
        rw [hm2]
        have hmm : (m2 != m2) = false := by simp
        go_wp2_with fail
        replace OW := Own.rot OW
        simp only [List.append_assoc] at OW
        replace OW := Own.rot OW
        simp only [List.append_assoc] at OW
        replace OW := Own.rot OW
        simp only [List.append_assoc] at OW
        replace OW := Own.rot OW
        simp only [List.append_assoc] at OW
        have hd0_18 := (Own.one OW).readsIota (by omega) (by omega) (by have := hbd0.out; omega)
        refine (heldIntS_any (w0 := w18) (k := 1) hd0_18 (by omega) (by omega)).mono ?_
        rw [heldK_iota, hm1]
        rintro e w19 ⟨rfl, hdr⟩
        have hb := hdr.ext
        clear hdr
        have hbw19 : Ext w18 w19 := Ext.trans inferInstance hb
        replace EB := Ext.trans EB hbw19
        replace OW := OW.ext (w' := w19)
        go_wp2_with fail
        replace OW := Own.rot OW
        simp only [List.append_assoc] at OW
        have hd1_19 := (Own.one OW).readsIota (by omega) (by omega) (by have := hbd1.out; omega)
        refine (heldIntS_any (w0 := w19) (k := m1) hd1_19 (by omega) (by omega)).mono ?_
        rw [heldK_iota, hm2]
        rintro e w20 ⟨rfl, hdr⟩
        have hb := hdr.ext
        clear hdr
        have hbw20 : Ext w19 w20 := Ext.trans inferInstance hb
        replace EB := Ext.trans EB hbw20
        replace OW := OW.ext (w' := w20)
        -- the second call
        have x0_20 := EB.cell x0
        go_wp2_with fail
        refine (toMetric_any (w0 := w4) a0).mono ?_
        rintro e w21 ⟨t_0_d, t_0_m, t_0_vs, rfl, t_0_l, t_0_own, hb⟩
        have t_0 := t_0_own.met' t_0_l a0
        clear t_0_own
        have hbw21 : Ext w20 w21 := Ext.trans inferInstance hb
        replace EB := Ext.trans EB hbw21
        replace OW := OW.ext (w' := w21)
        go_wp2_with fail
        refine (toIntS_any (w0 := w4) a2).mono ?_
        rintro e w22 ⟨t_2_d, t_2_m, rfl, t_2_own, hb⟩
        have t_2 := t_2_own.reads' a2
        clear t_2_own
        have hbw22 : Ext w21 w22 := Ext.trans inferInstance hb
        replace t_0 := t_0.ext (w' := w22)
        replace EB := Ext.trans EB hbw22
        replace OW := OW.ext (w' := w22)
        go_wp2_with fail
        refine (implExb_any (w0 := w22) t_0 a1 t_2).mono ?_
        rw [hr0.out, hr1.out, hr2.out, hr3.out]
        rintro e w23 ⟨h0_d, h0_m, h1_d, h1_m, rfl, h_own, hb⟩
        have hbw23 : Ext w22 w23 := Ext.trans inferInstance hb
        replace t_0 := t_0.ext (w' := w23)
        replace t_2 := t_2.ext (w' := w23)
        replace EB := Ext.trans EB hbw23
        replace OW := OW.ext (w' := w23)
        have h_own0 := h_own
        have hh0 := (Own.one h_own).reads' z0
        replace h_own := h_own.right
        have h_own1 := h_own
        have hh1 := h_own.reads' z1
        have EH : Ext w23 w23 := Ext.refl w23
        go_wp2_with fail
        refine (eqIntS_any (w0 := w23) (hh0.ext (w' := w23)) (z0.ext (w' := w23))).mono ?_
        rw [hq0.out]
        rintro e w24 ⟨rfl, hdr⟩
        have hb := hdr.ext
        clear hdr
        have hbw24 : Ext w23 w24 := Ext.trans inferInstance hb
        replace EB := Ext.trans EB hbw24
        replace EH := Ext.trans EH hbw24
        replace OW := OW.ext (w' := w24)
        go_wp2_with fail
        refine (eqIntS_any (w0 := w24) (hh1.ext (w' := w24)) (z1.ext (w' := w24))).mono ?_
        rw [hq1.out]
        rintro e w25 ⟨rfl, hdr⟩
        have hb := hdr.ext
        clear hdr
        have hbw25 : Ext w24 w25 := Ext.trans inferInstance hb
        replace EB := Ext.trans EB hbw25
        replace EH := Ext.trans EH hbw25
        replace OW := OW.ext (w' := w25)
        go_wp2_with fail
        replace OW := Own.rot OW
        simp only [List.append_assoc] at OW
        replace OW := Own.rot OW
        simp only [List.append_assoc] at OW
        replace OW := Own.rot OW
        simp only [List.append_assoc] at OW
        replace OW := Own.rot OW
        simp only [List.append_assoc] at OW
        have hd0_25 := (Own.one OW).readsIota (by omega) (by omega) (by have := hbd0.out; omega)
        refine (heldIntS_any (w0 := w25) (k := 1) hd0_25 (by omega) (by omega)).mono ?_
        rw [heldK_iota, hm1]
        rintro e w26 ⟨rfl, hdr⟩
        have hb := hdr.ext
        clear hdr
        have hbw26 : Ext w25 w26 := Ext.trans inferInstance hb
        replace EB := Ext.trans EB hbw26
        replace EH := Ext.trans EH hbw26
        replace OW := OW.ext (w' := w26)
        go_wp2_with fail
        replace OW := Own.rot OW
        simp only [List.append_assoc] at OW
        have hd1_26 := (Own.one OW).readsIota (by omega) (by omega) (by have := hbd1.out; omega)
        refine (heldIntS_any (w0 := w26) (k := m1) hd1_26 (by omega) (by omega)).mono ?_
        rw [heldK_iota, hm2]
        rintro e w27 ⟨rfl, hdr⟩
        have hb := hdr.ext
        clear hdr
        have hbw27 : Ext w26 w27 := Ext.trans inferInstance hb
        replace EB := Ext.trans EB hbw27
        replace EH := Ext.trans EH hbw27
        replace OW := OW.ext (w' := w27)
        go_wp2_with fail
        go_ret
        exact ⟨rfl, Ext.trans e1 EB⟩

end Go.Proofs.Ytmgcfnciejfpbaa

/- Arguments that came in, read as lists of ints, as rows of ints, as a problem. -/
namespace Go.Proofs.Ytmgcfnciejfpbaa
open Go.ChangeShapes Go.WideShapes Go.ChangeAt Go.RowKit Go.Deep Go.Joins

theorem Try.cellsInts : Try.prog.cellsOf 25 = 1 := by kernel_rfl
theorem Try.cellsInt : Try.prog.cellsOf 3 = 1 := by kernel_rfl
theorem Try.bytesInts : Try.prog.bytesOf 25 = 24 := by kernel_rfl
theorem Try.bytesInt : Try.prog.bytesOf 3 = 8 := by kernel_rfl

theorem i64_of_wf {n : Int} (h : (Lit.int .i64 n).wf = true) : I64 n := by
  have := bounds_i64 h
  unfold I64
  omega

theorem addr_add_nil {b o j : Nat} : (⟨b, o, none⟩ : Addr).add j = ⟨b, o + j, none⟩ := by
  unfold Addr.add; split <;> simp_all

theorem spot_of_cell {w : World} {a : Addr} {u : Value} (h : w.cell? (a.add 0) = some u) : ∃ b o, a = ⟨b, o, none⟩ := by
  obtain ⟨b, o, s⟩ := a
  have hs := World.cell?_spot h
  simp [Addr.add] at hs
  subst hs
  exact ⟨b, o, rfl⟩

/-- A row as open_int_rows tells it. -/
theorem isInts_of_row {w : World} {A : Option Addr} {L C : Nat} {Z : List Int} (h1 : L ≤ C) (h2 : Z.length = C) (h3 : ∀ n ∈ Z, (Lit.int .i64 n).wf = true) (h4 : A = none → C = 0)
    (h5 : ∀ a', A = some a' → ∀ c, c < C → w.cell? (a'.add c) = some (.int .i64 (Z.getD c 0))) (hs : Short C) : IsInts w (.slice A L C) (Z.take L) := by
  have hl : (Z.take L).length = L := by simp; omega
  refine ⟨A, C, by rw [hl], ⟨by rw [hl]; exact Nat.le_trans h1 hs, by rw [hl]; exact h1⟩, fun x hx => i64_of_wf (h3 x (List.mem_of_mem_take hx)), fun j hj => ?_⟩
  rw [hl] at hj
  cases A with
  | none => have := h4 rfl; omega
  | some a =>
    have hc := h5 a rfl j (by omega)
    obtain ⟨b, o, rfl⟩ := spot_of_cell (h5 a rfl 0 (by omega))
    refine ⟨b, o, rfl, ?_⟩
    rw [addr_add_nil] at hc
    rw [hc]
    simp [nth, List.getD_eq_getElem?_getD, hj]

section
variable {H : Type} {enc : TypeId × Value → H} {w : World}

theorem isInts_of_trod {fuel : Nat} {v : Value} {x : DataW H × List MemPlace} (h : DataW.trod enc Try.prog w 0 (fun _ => true) true fuel 25 [v] = some x)
    (hw : ∀ n ∈ x.1.weights Try.prog 25, n ≤ reachBytes) : ∃ xs, IsInts w v xs := by
  rcases open_ints Try.underlying25 Try.underlying3 Try.cellsInt h with ⟨hcs, _⟩ | ⟨a, l, c, zs, hcs, _, hl, hm, hz, hx, hcell, hwz⟩
  · simp only [List.cons.injEq, and_true] at hcs
    subst hcs
    exact ⟨[], IsInts.nil w⟩
  · simp only [List.cons.injEq, and_true] at hcs
    subst hcs
    have hz' : zs.length = c := by simpa using hz
    subst hx
    have hb := hw ((zs.take l).length * 1 * 8 + (zs.drop l).length * 8) (by
      simp only [DataW.weights, Try.underlying25, Try.bytesInt, List.mem_cons]
      left
      simp [lits]
      omega)
    simp only [reachBytes, List.length_take, List.length_drop] at hb
    refine ⟨zs.take l, isInts_of_row hl hz' hwz (fun h => by cases h) (fun a' ha c' hc' => ?_) (by unfold Short; omega)⟩
    cases ha
    exact hcell c' (by omega)

theorem isRows_of_trod {fuel : Nat} {v : Value} {x : DataW H × List MemPlace} (h : DataW.trod enc Try.prog w 0 (fun _ => true) true fuel 22 [v] = some x)
    (hw : ∀ n ∈ x.1.weights Try.prog 22, n ≤ reachBytes) : ∃ M, IsRows w v M := by
  rcases open_int_rows Try.underlying22 Try.underlying25 Try.underlying3 Try.cellsInts Try.cellsInt h with ⟨hcs, _⟩ | ⟨a, len, cap, A, L, C, Z, hcs, _, hl, hm, hx, hrow⟩
  · simp only [List.cons.injEq, and_true] at hcs
    subst hcs
    exact ⟨[], IsRows.nil w⟩
  · simp only [List.cons.injEq, and_true] at hcs
    subst hcs
    subst hx
    have hb := hw (cap * 24) (by
      simp only [DataW.weights, Try.underlying22, Try.bytesInts, List.mem_cons]
      left
      simp
      omega)
    simp only [reachBytes] at hb
    have hlen : ((List.range len).map fun r => (Z r).take (L r)).length = len := by simp
    refine ⟨(List.range len).map fun r => (Z r).take (L r), some a, cap, by rw [hlen], by rw [hlen]; unfold ShortRows; omega, fun j hj => ?_⟩
    rw [hlen] at hj
    obtain ⟨hc, h1, _, h3, h4, h5, h6⟩ := hrow j (by omega)
    obtain ⟨b, o, rfl⟩ := spot_of_cell (hrow 0 (by omega)).1
    rw [addr_add_nil] at hc
    have hr : row ((List.range len).map fun r => (Z r).take (L r)) j = (Z j).take (L j) := by simp [row, hj]
    refine ⟨b, o, _, rfl, hc, ?_⟩
    rw [hr]
    refine isInts_of_row h1 h3 h4 h5 (fun a' ha c hc' => (h6 a' ha).2 c hc') ?_
    cases hA : A j with
    | none => rw [h5 hA]; unfold Short; omega
    | some a' =>
      have hb2 := hw (C j * 8) (by
        simp only [DataW.weights, Try.underlying22, List.mem_cons, List.mem_append]
        right; left
        have hmem : (intRow .i64 (A j) (L j) (Z j) : DataW H) ∈ (List.range len).map fun r => intRow .i64 (A r) (L r) (Z r) := List.mem_map.2 ⟨j, List.mem_range.2 hj, rfl⟩
        have hin : C j * 8 ∈ (intRow .i64 (A j) (L j) (Z j) : DataW H).weights Try.prog 25 := by
          rw [hA]
          simp only [intRow, DataW.weights, Try.underlying25, Try.bytesInt, List.mem_cons]
          left
          simp [lits]
          omega
        generalize (List.range len).map (fun r => (intRow .i64 (A r) (L r) (Z r) : DataW H)) = l at hmem
        clear hw h
        induction l with
        | nil => cases hmem
        | cons d l ih =>
          simp only [DataW.weightsAll, List.mem_append]
          rcases List.mem_cons.1 hmem with rfl | hmem
          · exact .inl hin
          · exact .inr (ih hmem))
      simp only [reachBytes] at hb2
      unfold Short
      omega

theorem weights_of {ts : List TypeId} {ds : List (DataW H)} (h : (DataW.weightsEach Try.prog ts ds).all (· ≤ reachBytes) = true) {j : Nat} {t : TypeId} {d : DataW H} (ht : ts[j]? = some t) (hd : ds[j]? = some d) :
    ∀ n ∈ d.weights Try.prog t, n ≤ reachBytes := fun n hn => by
  simpa using List.all_eq_true.1 h _ (DataW.weights_mem_each ht hd n hn)
end
end Go.Proofs.Ytmgcfnciejfpbaa

/- A metric as an argument. -/
namespace Go.Proofs.Ytmgcfnciejfpbaa
open Go.ChangeShapes Go.WideShapes Go.ChangeAt Go.RowKit Go.Deep Go.Joins
section
variable {H : Type} {enc : TypeId × Value → H} {w : World}
theorem open_agg1 {P : Program} {base : Nat} {spare : Nat → Bool} {held : Bool} {r : Reach} {b0 : Nat} {t : TypeId} {f0 : Field} {v : Value} {d : DataW H} {p : List MemPlace} (hs : P.underlying t = some (.struct #[f0])) (hone : oneCellFields P #[f0] = true) (hC : P.cellsOf t = 1)
    (hv : Value.okWide P w r b0 t v) (h : DataW.Trod enc P w base spare held t v d p) :
    ∃ (v0 : Value) (y0 : DataW H × List MemPlace) (n : Nat), v = .agg #[v0] ∧ d = .agg [y0.1] ∧ p = y0.2 ∧ DataW.trod enc P w base spare held n f0.type [v0] = some y0 := by
  obtain ⟨cs, rfl, hsz⟩ := okWide_struct hs hv
  obtain ⟨c0, rfl⟩ : ∃ c0, cs = #[c0] := by
    obtain ⟨l⟩ := cs
    match l, hsz.trans hC with
    | [c0], _ => exact ⟨c0, rfl⟩
  obtain ⟨fuel, hf⟩ := h
  obtain ⟨xs, n, _, hx, hl, hlen, hf⟩ := DataW.trod_struct hs hf
  obtain ⟨o0, k0⟩ := hone_of hone 0 f0 rfl
  match xs, hlen with
  | [y0], _ =>
    simp only [Prod.mk.injEq] at hx
    have h0 := hf 0 f0 rfl
    exact ⟨c0, y0, n, rfl, by simpa using hx.1, by simpa using hx.2, by simpa [Value.cells, o0, k0] using h0⟩

set_option maxRecDepth 100000 in
theorem isMet_of_trod {r : Reach} {b0 : Nat} {v : Value} {d : DataW H} {p : List MemPlace} (hv : Value.okWide Try.prog w r b0 24 v) (h : DataW.Trod enc Try.prog w 0 (fun _ => true) true 24 v d p)
    (hw : ∀ n ∈ d.weights Try.prog 24, n ≤ reachBytes) : ∃ M, IsMet w v M := by
  obtain ⟨c0, y0, m, rfl, rfl, rfl, hy0⟩ := open_agg1 Try.underlying24 (by kernel_rfl) (by kernel_rfl) hv h
  simp only [DataW.weights, Try.underlying24, DataW.weightsEach, List.map_cons, List.map_nil, List.mem_append] at hw
  obtain ⟨M, hM⟩ := isRows_of_trod hy0 (fun n hn => hw n (.inl hn))
  exact ⟨M, c0, rfl, hM⟩
end
end Go.Proofs.Ytmgcfnciejfpbaa

/- The given statement of 'laws.FnExactExchangeBreak', proved: for every input the law returns true, and each argument reads behind the call as it read before. -/
namespace Go.Proofs.Ytmgcfnciejfpbaa
open Go.ChangeShapes Go.WideShapes Go.ChangeAt Go.RowKit

theorem closedFnExactExchangeBreak : lawFacts Try.prog 3 Try.f3 Rows.fnExactExchangeBreakSpec Rows.fnExactExchangeBreakRow = true := by kernel_rfl

set_option maxRecDepth 100000 in
theorem liftedFnExactExchangeBreak (os : Os) (started : os.Started) (H : Type) (enc : TypeId × Value → H) :
    ReturnsInHanded {} Try.checked os 3 .any (Rows.fnExactExchangeBreakSpec.pre6 enc Try.prog Try.f3 Rows.fnExactExchangeBreakRow.domain false) (Rows.fnExactExchangeBreakSpec.post enc Try.prog Try.f3 false true false false) := by
  refine returnsInHanded_of_change_sized (C := Try.checked) factOwn started (by kernel_rfl) Try.func3
    (ChangeSpec.witness6 (enc := enc) (C := Try.checked) false ⟨#[], #[.agg #[.slice none 0 0], .int .i64 0, .slice none 0 0], []⟩ 8 (by kernel_rfl) (by kernel_rfl) (by kernel_rfl) (by kernel_rfl)) ?_
  intro W base args ds gs before hval0 hW hcnd hsz0 _
  have hval : ∀ (j : Nat) t v, Try.f3.params[j]? = some t → args[j]? = some v → Value.okWide Try.prog W .any base t v := hval0
  have hsz : (DataW.weightsEach Try.prog (Try.f3.params.toList ++ Rows.fnExactExchangeBreakSpec.plain.varTypes Try.prog) (ds ++ gs)).all (· ≤ reachBytes) = true := hsz0
  have hW' := hW
  obtain ⟨p, q, hA0, hV, rfl, hfz, hnd⟩ := hW
  have hA : DataW.TrodAll enc Try.prog W 0 (fun _ => true) true Try.f3.params.toList args.toList ds p := hA0
  rw [Try.params3] at hA hval hsz
  obtain ⟨v0, vs0, d0, ds0, p0, q0, hargs, rfl, rfl, h0, r0⟩ := trodAll_cons hA
  obtain ⟨v1, vs1, d1, ds1, p1, q1, rfl, rfl, rfl, h1, r1⟩ := trodAll_cons r0
  obtain ⟨v2, vs2, d2, ds2, p2, q2, rfl, rfl, rfl, h2, r2⟩ := trodAll_cons r1
  obtain ⟨rfl, rfl, rfl⟩ := trodAll_nil r2
  obtain rfl : args = #[v0, v1, v2] := by cases args; simp_all
  obtain ⟨rfl, rfl⟩ := trodVars_none hV
  have k0 := h0
  have lt0 : ∀ x ∈ p0, x.block < W.heap.size := by obtain ⟨m, hm⟩ := k0; exact DataW.trod_lt m _ _ _ hm
  have hw0 := weights_of hsz (j := 0) (t := 24) (d := d0) rfl rfl
  obtain ⟨M0, a0⟩ := isMet_of_trod (hval 0 24 v0 rfl rfl) h0 hw0
  have k1 := h1
  have lt1 : ∀ x ∈ p1, x.block < W.heap.size := by obtain ⟨m, hm⟩ := k1; exact DataW.trod_lt m _ _ _ hm
  obtain ⟨x1, rfl, rfl, rfl, i1⟩ := open_int Try.underlying3 (hval 1 3 v1 rfl rfl) h1
  have k2 := h2
  have lt2 : ∀ x ∈ p2, x.block < W.heap.size := by obtain ⟨m, hm⟩ := k2; exact DataW.trod_lt m _ _ _ hm
  have hw2 := weights_of hsz (j := 2) (t := 25) (d := d2) rfl rfl
  obtain ⟨a, l, c, rfl⟩ := okWide_slice Try.underlying25 (hval 2 25 v2 rfl rfl)
  obtain ⟨x2, a2⟩ : ∃ x, IsInts W (.slice a l c) x := by
    obtain ⟨fuel, hf⟩ := h2
    exact isInts_of_trod hf hw2
  clear hA0 hval0 hsz0
  refine (lawFnExactExchangeBreak_any a0 (i64_of_wf i1) a2).mono fun e W' ⟨he, hext⟩ => ?_
  subst he
  have bel := hext.below
  exact ⟨_, rfl, _, _, _, [], _, [], hW', trodAll_mk1 (shut_bool Try.underlying4 _), (trodAll_cons_mk (Below.trod factLaid (by kernel_rfl) (of_decide_eq_true (by kernel_rfl)) k0 bel lt0) (trodAll_cons_mk (shut_int Try.underlying3 i1) (trodAll_cons_mk (Below.trod factLaid (by kernel_rfl) (of_decide_eq_true (by kernel_rfl)) k2 bel lt2) trodAll_mk0))), rfl, bel.frame _, fun h => by cases h⟩

theorem holdsFnExactExchangeBreak : Rows.FnExactExchangeBreakSaid :=
  OpenClaim.holds_of_wide 3 Try.f3 rfl rfl rfl rfl rfl rfl rfl ⟨rfl, rfl, rfl, rfl, rfl⟩ rfl rfl rfl rfl rfl (by kernel_rfl) Try.func3 (joined_here closedFnExactExchangeBreak)
    (of_decide_eq_true (by kernel_rfl)) (by unfold Func.isWrapper; first | (rw [if_pos (by decide +kernel)]; kernel_rfl) | (rw [if_neg (by decide +kernel)]; exact ⟨rfl, rfl⟩))
    (fun os started H enc _ => liftedFnExactExchangeBreak os started H enc)

#print axioms holdsFnExactExchangeBreak
end Go.Proofs.Ytmgcfnciejfpbaa

