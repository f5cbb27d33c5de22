/- Exchanges between configurations, the reference's. -/
import Derived.Test.YtmgcfnciejfpbaaGreatQGrI
import Derived.Test.YtmgcfnciejfpbaaGreatQNxtS
import Derived.Test.YtmgcfnciejfpbaaGreatQWsv
namespace Go.Proofs.YtmgcfnciejfpbaaGreat
open Go.RowKit

theorem results_tmp4 {fn : Func} {t u v z : Tmp} (h : fn.results = #[.tmp t, .tmp u, .tmp v, .tmp z]) (tmps : Array Value) (P : Program) (w : World) :
    (results fn tmps).run P w = .ok (.tuple #[tmps.getD t undef, tmps.getD u undef, tmps.getD v undef, tmps.getD z undef]) w := by
  simp [results, h]
set_option maxHeartbeats 3200000 in
set_option maxRecDepth 100000 in
theorem l7Exchanges_any {vP vw vx vy : Value} {n k : Nat} {ws x y : List Int} {s : Nat} {w0 w : World} [Ext w0 w] (hP : IsRows w0 vP (confs n k 0)) (hw : IsInts w0 vw ws) (hx : IsInts w0 vx x) (hy : IsInts w0 vy y) (hn : n ≤ 6) (hk : k ≤ 3) (hxc : x ∈ confs n k 0) (hyc : y ∈ confs n k 0) (hs : s < k) (hlw : ws.length = (confs n k 0).length) (hwb : ∀ j, j < (confs n k 0).length → 0 ≤ nth ws j ∧ nth ws j ≤ 1000000) :
    Calls Tryz.prog 116 #[vP, vw, vx, vy, .int .i64 s] w fun e w' => e = .returned (.bool (exOk (confs n k 0) ws x y s)) ∧ Ext w w' := by
  have hP' := hP
  obtain ⟨aP, cP, rfl, lP⟩ := hP.form
  have hx' := hx
  obtain ⟨dx, mx, rfl, lx⟩ := hx.form
  have hy' := hy
  obtain ⟨dy, my, rfl, ly⟩ := hy.form
  have hw' := hw
  obtain ⟨dw, mw, rfl, lw⟩ := hw.form
  obtain ⟨hxk, _, hxp0⟩ := confs_iff.1 hxc
  obtain ⟨hyk, _, hyp0⟩ := confs_iff.1 hyc
  have hxp : Pts n x := fun z hz => by have := hxp0 z hz; omega
  have hyp : Pts n y := fun z hz => by have := hyp0 z hz; omega
  have hx3 : x.length ≤ 3 := by omega
  have hy3 : y.length ≤ 3 := by omega
  have hsx : s < x.length := by omega
  clear hxp0 hyp0
  have hSwx := hid (show ∀ q r, q < k → 0 ≤ r ∧ r < (n : Int) → sortL (x.set q r) ∈ confs n k 0 from fun q r hq hr => (set_conf hxc hq hr).1)
  have hSwy := hid (show ∀ q r, q < k → 0 ≤ r ∧ r < (n : Int) → sortL (y.set q r) ∈ confs n k 0 from fun q r hq hr => (set_conf hyc hq hr).1)
  have htxl := (atR_lt hxc).1
  have htyl := (atR_lt hyc).1
  replace hxc := hid hxc
  replace hyc := hid hyc
  replace hxk := hid hxk
  replace hyk := hid hyk
  obtain ⟨P, hPd⟩ : ∃ p, p = confs n k 0 := ⟨_, rfl⟩
  rw [← hPd] at hP hP' lP hxc hyc hlw hwb hSwx hSwy htxl htyl ⊢
  replace hPd := hid hPd
  replace hlw := hid hlw
  replace hwb := hid hwb
  have hyes := hid (fun (t : Nat) => @exOk_yes P ws x y s t)
  have hno := hid (@exOk_no P ws x y s)
  obtain ⟨tx, htx0⟩ : ∃ t, t = atR P x := ⟨_, rfl⟩
  obtain ⟨ty, hty0⟩ : ∃ t, t = atR P y := ⟨_, rfl⟩
  rw [← htx0] at htxl hyes hno
  rw [← hty0] at htyl hyes hno
  have htx := hid htx0.symm
  have hty := hid hty0.symm
  clear htx0 hty0
  have htxw : tx < ws.length := by rw [hlw.out]; exact htxl
  have htyw : ty < ws.length := by rw [hlw.out]; exact htyl
  obtain ⟨bw, ow, hdw, hcx⟩ := hw'.at (w' := w) htxw
  cases hdw
  obtain ⟨bw2, ow2, hdw2, hcy⟩ := hw'.at (w' := w) htyw
  cases hdw2
  have hqx := hwb.out tx htxl
  have hqy := hwb.out ty htyl
  obtain ⟨wx, hwx⟩ : ∃ z, z = nth ws tx := ⟨_, rfl⟩
  obtain ⟨wy, hwy⟩ : ∃ z, z = nth ws ty := ⟨_, rfl⟩
  rw [← hwx] at hcx hqx hyes hno
  rw [← hwy] at hcy hqy hyes hno
  replace hwx := hid hwx
  replace hwy := hid hwy
  have hSw := hid (show ∀ u, Ext w u → u.cell? ⟨bw, ow + tx, none⟩ = some (.int .i64 wx) ∧ u.cell? ⟨bw, ow + ty, none⟩ = some (.int .i64 wy) from fun u e => ⟨e.cell hcx, e.cell hcy⟩)
  clear hcx hcy
  have hs0 : IntKind.i64.wrap (wx + wy) = wx + wy := IntWalk.i64_in _ (by omega)
  go_enter Tryz.func116, Tryz.ntmps116
  go_wp2_with fail
  refine region_held_from (w0 := w) (S := fun u => u.cell? ⟨bw, ow + tx, none⟩ = some (.int .i64 wx) ∧ u.cell? ⟨bw, ow + ty, none⟩ = some (.int .i64 wy)) (by kernel_rfl) hSw.out (fun wd ed hHeld0 => ?_)
  have e0d : Ext w0 wd := Ext.trans ‹Ext w0 w› ed
  refine wpAnyH_take (i := 0) (v := .slice (some ⟨bw, ow, none⟩) ws.length mw) rfl (by kernel_rfl) (by kernel_rfl) (by kernel_rfl) (fun _ _ _ h => h) (Or.inl ⟨by rfl, by intro wx hx; go_simp⟩) (by assumption) ?_
  try simp only [List.getElem_toArray, List.getElem_cons_zero, Act.put, List.setIfInBounds_toArray, List.set_cons_zero, List.set_cons_succ]
  refine wpAnyH_take (i := 1) (v := .slice aP P.length cP) rfl (by kernel_rfl) (by kernel_rfl) (by kernel_rfl) (fun _ _ _ h => h) (Or.inl ⟨by rfl, by intro wx hx; go_simp⟩) (by assumption) ?_
  try simp only [List.getElem_toArray, List.getElem_cons_succ, List.getElem_cons_zero, Act.put, List.setIfInBounds_toArray, List.set_cons_zero, List.set_cons_succ]
  refine wpAnyH_take (i := 2) (v := .slice dx x.length mx) rfl (by kernel_rfl) (by kernel_rfl) (by kernel_rfl) (fun _ _ _ h => h) (Or.inl ⟨by rfl, by intro wx hx; go_simp⟩) (by assumption) ?_
  try simp only [List.getElem_toArray, List.getElem_cons_succ, List.getElem_cons_zero, Act.put, List.setIfInBounds_toArray, List.set_cons_zero, List.set_cons_succ]
  refine wpAnyH_take (i := 6) (v := .slice (some ⟨bw, ow, none⟩) ws.length mw) rfl (by kernel_rfl) (by kernel_rfl) (by kernel_rfl) (fun _ _ _ h => h) (Or.inl ⟨by rfl, by intro wx hx; go_simp⟩) (by assumption) ?_
  try simp only [List.getElem_toArray, List.getElem_cons_succ, List.getElem_cons_zero, Act.put, List.setIfInBounds_toArray, List.set_cons_zero, List.set_cons_succ]
  refine wpAnyH_take (i := 7) (v := .slice aP P.length cP) rfl (by kernel_rfl) (by kernel_rfl) (by kernel_rfl) (fun _ _ _ h => h) (Or.inl ⟨by rfl, by intro wx hx; go_simp⟩) (by assumption) ?_
  try simp only [List.getElem_toArray, List.getElem_cons_succ, List.getElem_cons_zero, Act.put, List.setIfInBounds_toArray, List.set_cons_zero, List.set_cons_succ]
  refine wpAnyH_take (i := 8) (v := .slice dy y.length my) rfl (by kernel_rfl) (by kernel_rfl) (by kernel_rfl) (fun _ _ _ h => h) (Or.inl ⟨by rfl, by intro wx hx; go_simp⟩) (by assumption) ?_
  try simp only [List.getElem_toArray, List.getElem_cons_succ, List.getElem_cons_zero, Act.put, List.setIfInBounds_toArray, List.set_cons_zero, List.set_cons_succ]
  refine wpAnyH_ready (rs := [3]) (by kernel_rfl) (by simp) ?_
  refine AllReadyH.cons rfl (fun K hK => ?_) AllReadyH.nil
  go_simp
  go_at_call 81
  refine (l7Index_any (w0 := w0) hP' hx' hxc.out).mono ?_
  rw [htx.out]
  rintro e w2 ⟨rfl, e2⟩
  have e2w : Ext w w2 := Ext.trans ed e2
  have e02 : Ext w0 w2 := Ext.trans ‹Ext w0 w› e2w
  have hS2 := hSw.out w2 e2w
  go_wp2_with fail
  refine hK.out _ _ hS2 (fun _ => ?_)
  clear hK K
  try simp only [List.getElem_toArray, List.getElem_cons_succ, List.getElem_cons_zero, Act.put, List.setIfInBounds_toArray, List.set_cons_zero, List.set_cons_succ]
  refine wpAnyH_take (i := 4) (v := .pointer (some ⟨bw, ow + tx, none⟩)) rfl (by kernel_rfl) (by kernel_rfl) (by kernel_rfl) (fun _ _ _ h => h) (Or.inl ⟨by rfl, by intro wx hx; go_simp⟩) (by assumption) ?_
  try simp only [List.getElem_toArray, List.getElem_cons_succ, List.getElem_cons_zero, Act.put, List.setIfInBounds_toArray, List.set_cons_zero, List.set_cons_succ]
  refine wpAnyH_take (i := 5) (v := .int .i64 wx) rfl (by kernel_rfl) (by kernel_rfl) (by kernel_rfl) (fun _ _ _ h => h) (Or.inl ⟨by rfl, by intro wx hx; obtain ⟨_, _⟩ := hx; go_simp⟩) (by assumption) ?_
  try simp only [List.getElem_toArray, List.getElem_cons_succ, List.getElem_cons_zero, Act.put, List.setIfInBounds_toArray, List.set_cons_zero, List.set_cons_succ]
  refine wpAnyH_ready (rs := [9]) (by kernel_rfl) (by simp) ?_
  refine AllReadyH.cons rfl (fun K hK => ?_) AllReadyH.nil
  go_simp
  go_at_call 81
  refine (l7Index_any (w0 := w0) hP' hy' hyc.out).mono ?_
  rw [hty.out]
  rintro e w3 ⟨rfl, e3⟩
  have e3w : Ext w w3 := Ext.trans e2w e3
  have hS3 := hSw.out w3 e3w
  go_wp2_with fail
  refine hK.out _ _ hS3 (fun _ => ?_)
  clear hK K
  try simp only [List.getElem_toArray, List.getElem_cons_succ, List.getElem_cons_zero, Act.put, List.setIfInBounds_toArray, List.set_cons_zero, List.set_cons_succ]
  refine wpAnyH_take (i := 10) (v := .pointer (some ⟨bw, ow + ty, none⟩)) rfl (by kernel_rfl) (by kernel_rfl) (by kernel_rfl) (fun _ _ _ h => h) (Or.inl ⟨by rfl, by intro wx hx; go_simp⟩) (by assumption) ?_
  try simp only [List.getElem_toArray, List.getElem_cons_succ, List.getElem_cons_zero, Act.put, List.setIfInBounds_toArray, List.set_cons_zero, List.set_cons_succ]
  refine wpAnyH_take (i := 11) (v := .int .i64 wy) rfl (by kernel_rfl) (by kernel_rfl) (by kernel_rfl) (fun _ _ _ h => h) (Or.inl ⟨by rfl, by intro wx hx; obtain ⟨_, _⟩ := hx; go_simp⟩) (by assumption) ?_
  try simp only [List.getElem_toArray, List.getElem_cons_succ, List.getElem_cons_zero, Act.put, List.setIfInBounds_toArray, List.set_cons_zero, List.set_cons_succ]
  refine wpAnyH_take (i := 12) (v := .int .i64 (wx + wy)) rfl (by kernel_rfl) (by kernel_rfl) (by kernel_rfl) (fun _ _ _ h => h) (Or.inl ⟨by rfl, by intro wx hx; go_simp⟩) (by assumption) ?_
  try simp only [List.getElem_toArray, List.getElem_cons_succ, List.getElem_cons_zero, Act.put, List.setIfInBounds_toArray, List.set_cons_zero, List.set_cons_succ]
  refine wpAnyH_take (i := 13) (v := .int .i64 (wx + wy)) rfl (by kernel_rfl) (by kernel_rfl) (by kernel_rfl) (fun _ _ _ h => h) (Or.inl ⟨by rfl, by intro wx hx; go_simp⟩) (by assumption) ?_
  try simp only [List.getElem_toArray, List.getElem_cons_succ, List.getElem_cons_zero, Act.put, List.setIfInBounds_toArray, List.set_cons_zero, List.set_cons_succ]
  refine wpAnyH_done (by kernel_rfl) ?_ _
  clear hs0
  obtain ⟨sm, hsm⟩ : ∃ z, z = wx + wy := ⟨_, rfl⟩
  rw [← hsm] at hyes hno ⊢
  have hsb : 0 ≤ sm ∧ sm ≤ 2000000 := by omega
  replace hsm := hid hsm
  go_wp2_with fail
  go_loopw [12] (fun i wr => ∃ t : Nat, t ≤ y.length ∧ i = .int .i64 t ∧ Hid (∀ q, q < t → ¬ exS P ws x y s q ≤ sm) ∧ Ext w wr) (fun i _ => y.length - (intOf i).toNat)
  case atStart => exact ⟨0, by omega, rfl, fun q hq => by omega, e3w⟩
  case round =>
    obtain ⟨t, ht, rfl, hnot, hxw⟩ := hrel
    obtain ⟨wq, rfl⟩ : ∃ z : World, z = wr := ⟨_, rfl⟩
    by_cases hty : t < y.length
    · have htk : t < k := by rw [← hyk.out]; exact hty
      have e0q : Ext w0 wq := Ext.trans ‹Ext w0 w› hxw
      obtain ⟨bY, oY, hdY, hcY⟩ := hy.at (w' := wq) hty
      cases hdY
      obtain ⟨bX, oX, hdX, hcX⟩ := hx.at (w' := wq) hsx
      cases hdX
      have hyr := hyp _ (nth_mem hty)
      have hxr := hxp _ (nth_mem hsx)
      have hm1 := hid (hSwx.out s _ hs hyr)
      have hm2 := hid (hSwy.out t _ htk hxr)
      have ht1 := (atR_lt hm1.out).1
      have ht2 := (atR_lt hm2.out).1
      have hex := hid (show exS P ws x y s t = nth ws (atR P (sortL (x.set s (nth y t)))) + nth ws (atR P (sortL (y.set t (nth x s)))) from rfl)
      have hl1 := hid (show (sortL (x.set s (nth y t))).length = x.length by rw [sortL_len, List.length_set])
      have hl2 := hid (show (sortL (y.set t (nth x s))).length = y.length by rw [sortL_len, List.length_set])
      have hi1 := hid (show ∀ z ∈ sortL (x.set s (nth y t)), I64 z from pts_i64 (n := n) ((hxp.set hyr).perm (sortL_perm _)) (by omega))
      have hi2 := hid (show ∀ z ∈ sortL (y.set t (nth x s)), I64 z from pts_i64 (n := n) ((hyp.set hxr).perm (sortL_perm _)) (by omega))
      have hyi := hid (show I64 (nth y t) by unfold I64; omega)
      have hxi := hid (show I64 (nth x s) by unfold I64; omega)
      obtain ⟨yt, hyt⟩ : ∃ z, z = nth y t := ⟨_, rfl⟩
      obtain ⟨xs, hxs⟩ : ∃ z, z = nth x s := ⟨_, rfl⟩
      rw [← hyt] at hcY hm1 hex hl1 hi1 hyi ht1
      rw [← hxs] at hcX hm2 hex hl2 hi2 hxi ht2
      replace hyt := hid hyt
      replace hxs := hid hxs
      obtain ⟨t1, ht1d⟩ : ∃ z, z = atR P (sortL (x.set s yt)) := ⟨_, rfl⟩
      obtain ⟨t2, ht2d⟩ : ∃ z, z = atR P (sortL (y.set t xs)) := ⟨_, rfl⟩
      rw [← ht1d] at ht1 hex
      rw [← ht2d] at ht2 hex
      have ha1 := hid ht1d.symm
      have ha2 := hid ht2d.symm
      clear ht1d ht2d
      have ht1w : t1 < ws.length := by rw [hlw.out]; exact ht1
      have ht2w : t2 < ws.length := by rw [hlw.out]; exact ht2
      obtain ⟨b1, o1, hd1, hc1⟩ := hw'.at (w' := wq) ht1w
      cases hd1
      obtain ⟨b2, o2, hd2, hc2⟩ := hw'.at (w' := wq) ht2w
      cases hd2
      have hq1 := hwb.out t1 ht1
      have hq2 := hwb.out t2 ht2
      obtain ⟨w1, hw1⟩ : ∃ z, z = nth ws t1 := ⟨_, rfl⟩
      obtain ⟨w2, hw2⟩ : ∃ z, z = nth ws t2 := ⟨_, rfl⟩
      rw [← hw1] at hc1 hq1 hex
      rw [← hw2] at hc2 hq2 hex
      replace hw1 := hid hw1
      replace hw2 := hid hw2
      clear hyr hxr ht1 ht2
      have hSx := hid (show ∀ u, Ext wq u → u.cell? ⟨bY, oY + t, none⟩ = some (.int .i64 yt) ∧ u.cell? ⟨bX, oX + s, none⟩ = some (.int .i64 xs) ∧ u.cell? ⟨bw, ow + t1, none⟩ = some (.int .i64 w1) ∧ u.cell? ⟨bw, ow + t2, none⟩ = some (.int .i64 w2) from fun u e => ⟨e.cell hcY, e.cell hcX, e.cell hc1, e.cell hc2⟩)
      clear hcY hcX hc1 hc2
      have hs1 : IntKind.i64.wrap (w1 + w2) = w1 + w2 := IntWalk.i64_in _ (by omega)
      by_cases hg : w1 + w2 ≤ sm
      · have hr := hid (hyes.out t hty (by rw [hex.out]; exact hg))
        have hgd : decide (w1 + w2 ≤ sm) = true := decide_eq_true hg
        replace hg := hid hg
        go_wp2_with fail
        refine region_held_from (w0 := wq) (S := fun u => u.cell? ⟨bY, oY + t, none⟩ = some (.int .i64 yt) ∧ u.cell? ⟨bX, oX + s, none⟩ = some (.int .i64 xs) ∧ u.cell? ⟨bw, ow + t1, none⟩ = some (.int .i64 w1) ∧ u.cell? ⟨bw, ow + t2, none⟩ = some (.int .i64 w2)) (by kernel_rfl) hSx.out (fun wd ed hHeld0 => ?_)
        have e0d : Ext w0 wd := Ext.trans e0q ed
        refine wpAnyH_take (i := 0) (v := .int .i64 sm) rfl (by kernel_rfl) (by kernel_rfl) (by kernel_rfl) (fun _ _ _ h => h) (Or.inl ⟨by rfl, by intro wx hx; go_simp⟩) (by assumption) ?_
        try simp only [List.getElem_toArray, List.getElem_cons_zero, Act.put, List.setIfInBounds_toArray, List.set_cons_zero, List.set_cons_succ]
        refine wpAnyH_take (i := 1) (v := .slice (some ⟨bw, ow, none⟩) ws.length mw) rfl (by kernel_rfl) (by kernel_rfl) (by kernel_rfl) (fun _ _ _ h => h) (Or.inl ⟨by rfl, by intro wx hx; go_simp⟩) (by assumption) ?_
        try simp only [List.getElem_toArray, List.getElem_cons_succ, List.getElem_cons_zero, Act.put, List.setIfInBounds_toArray, List.set_cons_zero, List.set_cons_succ]
        refine wpAnyH_take (i := 2) (v := .slice aP P.length cP) rfl (by kernel_rfl) (by kernel_rfl) (by kernel_rfl) (fun _ _ _ h => h) (Or.inl ⟨by rfl, by intro wx hx; go_simp⟩) (by assumption) ?_
        try simp only [List.getElem_toArray, List.getElem_cons_succ, List.getElem_cons_zero, Act.put, List.setIfInBounds_toArray, List.set_cons_zero, List.set_cons_succ]
        refine wpAnyH_take (i := 3) (v := .slice (some ⟨bX, oX, none⟩) x.length mx) rfl (by kernel_rfl) (by kernel_rfl) (by kernel_rfl) (fun _ _ _ h => h) (Or.inl ⟨by rfl, by intro wx hx; go_simp⟩) (by assumption) ?_
        try simp only [List.getElem_toArray, List.getElem_cons_succ, List.getElem_cons_zero, Act.put, List.setIfInBounds_toArray, List.set_cons_zero, List.set_cons_succ]
        refine wpAnyH_take (i := 4) (v := .int .i64 s) rfl (by kernel_rfl) (by kernel_rfl) (by kernel_rfl) (fun _ _ _ h => h) (Or.inl ⟨by rfl, by intro wx hx; go_simp⟩) (by assumption) ?_
        try simp only [List.getElem_toArray, List.getElem_cons_succ, List.getElem_cons_zero, Act.put, List.setIfInBounds_toArray, List.set_cons_zero, List.set_cons_succ]
        refine wpAnyH_take (i := 5) (v := .slice (some ⟨bY, oY, none⟩) y.length my) rfl (by kernel_rfl) (by kernel_rfl) (by kernel_rfl) (fun _ _ _ h => h) (Or.inl ⟨by rfl, by intro wx hx; go_simp⟩) (by assumption) ?_
        try simp only [List.getElem_toArray, List.getElem_cons_succ, List.getElem_cons_zero, Act.put, List.setIfInBounds_toArray, List.set_cons_zero, List.set_cons_succ]
        refine wpAnyH_take (i := 6) (v := .int .i64 t) rfl (by kernel_rfl) (by kernel_rfl) (by kernel_rfl) (fun _ _ _ h => h) (Or.inl ⟨by rfl, by intro wx hx; go_simp⟩) (by assumption) ?_
        try simp only [List.getElem_toArray, List.getElem_cons_succ, List.getElem_cons_zero, Act.put, List.setIfInBounds_toArray, List.set_cons_zero, List.set_cons_succ]
        refine wpAnyH_take (i := 7) (v := .pointer (some ⟨bY, oY + t, none⟩)) rfl (by kernel_rfl) (by kernel_rfl) (by kernel_rfl) (fun _ _ _ h => h) (Or.inl ⟨by rfl, by intro wx hx; go_simp⟩) (by assumption) ?_
        try simp only [List.getElem_toArray, List.getElem_cons_succ, List.getElem_cons_zero, Act.put, List.setIfInBounds_toArray, List.set_cons_zero, List.set_cons_succ]
        refine wpAnyH_take (i := 8) (v := .int .i64 yt) rfl (by kernel_rfl) (by kernel_rfl) (by kernel_rfl) (fun _ _ _ h => h) (Or.inl ⟨by rfl, by intro wx hx; obtain ⟨_, _, _, _⟩ := hx; go_simp⟩) (by assumption) ?_
        try simp only [List.getElem_toArray, List.getElem_cons_succ, List.getElem_cons_zero, Act.put, List.setIfInBounds_toArray, List.set_cons_zero, List.set_cons_succ]
        refine wpAnyH_take (i := 13) (v := .slice (some ⟨bw, ow, none⟩) ws.length mw) rfl (by kernel_rfl) (by kernel_rfl) (by kernel_rfl) (fun _ _ _ h => h) (Or.inl ⟨by rfl, by intro wx hx; go_simp⟩) (by assumption) ?_
        try simp only [List.getElem_toArray, List.getElem_cons_succ, List.getElem_cons_zero, Act.put, List.setIfInBounds_toArray, List.set_cons_zero, List.set_cons_succ]
        refine wpAnyH_take (i := 14) (v := .slice aP P.length cP) rfl (by kernel_rfl) (by kernel_rfl) (by kernel_rfl) (fun _ _ _ h => h) (Or.inl ⟨by rfl, by intro wx hx; go_simp⟩) (by assumption) ?_
        try simp only [List.getElem_toArray, List.getElem_cons_succ, List.getElem_cons_zero, Act.put, List.setIfInBounds_toArray, List.set_cons_zero, List.set_cons_succ]
        refine wpAnyH_take (i := 15) (v := .slice (some ⟨bY, oY, none⟩) y.length my) rfl (by kernel_rfl) (by kernel_rfl) (by kernel_rfl) (fun _ _ _ h => h) (Or.inl ⟨by rfl, by intro wx hx; go_simp⟩) (by assumption) ?_
        try simp only [List.getElem_toArray, List.getElem_cons_succ, List.getElem_cons_zero, Act.put, List.setIfInBounds_toArray, List.set_cons_zero, List.set_cons_succ]
        refine wpAnyH_take (i := 16) (v := .int .i64 t) rfl (by kernel_rfl) (by kernel_rfl) (by kernel_rfl) (fun _ _ _ h => h) (Or.inl ⟨by rfl, by intro wx hx; go_simp⟩) (by assumption) ?_
        try simp only [List.getElem_toArray, List.getElem_cons_succ, List.getElem_cons_zero, Act.put, List.setIfInBounds_toArray, List.set_cons_zero, List.set_cons_succ]
        refine wpAnyH_take (i := 17) (v := .slice (some ⟨bX, oX, none⟩) x.length mx) rfl (by kernel_rfl) (by kernel_rfl) (by kernel_rfl) (fun _ _ _ h => h) (Or.inl ⟨by rfl, by intro wx hx; go_simp⟩) (by assumption) ?_
        try simp only [List.getElem_toArray, List.getElem_cons_succ, List.getElem_cons_zero, Act.put, List.setIfInBounds_toArray, List.set_cons_zero, List.set_cons_succ]
        refine wpAnyH_take (i := 18) (v := .int .i64 s) rfl (by kernel_rfl) (by kernel_rfl) (by kernel_rfl) (fun _ _ _ h => h) (Or.inl ⟨by rfl, by intro wx hx; go_simp⟩) (by assumption) ?_
        try simp only [List.getElem_toArray, List.getElem_cons_succ, List.getElem_cons_zero, Act.put, List.setIfInBounds_toArray, List.set_cons_zero, List.set_cons_succ]
        refine wpAnyH_take (i := 19) (v := .pointer (some ⟨bX, oX + s, none⟩)) rfl (by kernel_rfl) (by kernel_rfl) (by kernel_rfl) (fun _ _ _ h => h) (Or.inl ⟨by rfl, by intro wx hx; go_simp⟩) (by assumption) ?_
        try simp only [List.getElem_toArray, List.getElem_cons_succ, List.getElem_cons_zero, Act.put, List.setIfInBounds_toArray, List.set_cons_zero, List.set_cons_succ]
        refine wpAnyH_take (i := 20) (v := .int .i64 xs) rfl (by kernel_rfl) (by kernel_rfl) (by kernel_rfl) (fun _ _ _ h => h) (Or.inl ⟨by rfl, by intro wx hx; obtain ⟨_, _, _, _⟩ := hx; go_simp⟩) (by assumption) ?_
        try simp only [List.getElem_toArray, List.getElem_cons_succ, List.getElem_cons_zero, Act.put, List.setIfInBounds_toArray, List.set_cons_zero, List.set_cons_succ]
        refine wpAnyH_ready (rs := [9]) (by kernel_rfl) (by simp) ?_
        refine AllReadyH.cons rfl (fun K hK => ?_) AllReadyH.nil
        go_simp
        go_at_call 128
        refine (l7Swap_any (w0 := w0) hx' hsx hyi.out (by omega)).mono ?_
        rintro e v5 ⟨u5, rfl, own5, e5⟩
        have e5q : Ext wq v5 := Ext.trans ed e5
        have hU : IsInts v5 u5 (sortL (x.set s yt)) := own5.reads (by unfold Short; rw [hl1.out]; omega) hi1.out
        clear own5
        have hS5 := hSx.out v5 e5q
        go_wp2_with fail
        refine hK.out _ _ hS5 (fun _ => ?_)
        clear hK K
        try simp only [List.getElem_toArray, List.getElem_cons_succ, List.getElem_cons_zero, Act.put, List.setIfInBounds_toArray, List.set_cons_zero, List.set_cons_succ]
        refine wpAnyH_ready (rs := [10]) (by kernel_rfl) (by simp) ?_
        refine AllReadyH.cons rfl (fun K hK => ?_) AllReadyH.nil
        go_simp
        go_at_call 81
        have e05 : Ext w0 v5 := Ext.trans e0q e5q
        refine (l7Index_any (w0 := v5) (w := v5) (hP'.ext (e := e05)) hU hm1.out).mono ?_
        rw [ha1.out]
        rintro e v6 ⟨rfl, e6⟩
        have e6q : Ext wq v6 := Ext.trans e5q e6
        have hS6 := hSx.out v6 e6q
        have e06 : Ext w0 v6 := Ext.trans e0q e6q
        go_wp2_with fail
        refine hK.out _ _ hS6 (fun _ => ?_)
        clear hK K
        try simp only [List.getElem_toArray, List.getElem_cons_succ, List.getElem_cons_zero, Act.put, List.setIfInBounds_toArray, List.set_cons_zero, List.set_cons_succ]
        refine wpAnyH_take (i := 11) (v := .pointer (some ⟨bw, ow + t1, none⟩)) rfl (by kernel_rfl) (by kernel_rfl) (by kernel_rfl) (fun _ _ _ h => h) (Or.inl ⟨by rfl, by intro wx hx; go_simp⟩) (by assumption) ?_
        try simp only [List.getElem_toArray, List.getElem_cons_succ, List.getElem_cons_zero, Act.put, List.setIfInBounds_toArray, List.set_cons_zero, List.set_cons_succ]
        refine wpAnyH_take (i := 12) (v := .int .i64 w1) rfl (by kernel_rfl) (by kernel_rfl) (by kernel_rfl) (fun _ _ _ h => h) (Or.inl ⟨by rfl, by intro wx hx; obtain ⟨_, _, _, _⟩ := hx; go_simp⟩) (by assumption) ?_
        try simp only [List.getElem_toArray, List.getElem_cons_succ, List.getElem_cons_zero, Act.put, List.setIfInBounds_toArray, List.set_cons_zero, List.set_cons_succ]
        refine wpAnyH_ready (rs := [21]) (by kernel_rfl) (by simp) ?_
        refine AllReadyH.cons rfl (fun K hK => ?_) AllReadyH.nil
        go_simp
        go_at_call 128
        refine (l7Swap_any (w0 := w0) hy' hty hxi.out (by omega)).mono ?_
        rintro e v7 ⟨u7, rfl, own7, e7⟩
        have e7q : Ext wq v7 := Ext.trans e6q e7
        have hU7 : IsInts v7 u7 (sortL (y.set t xs)) := own7.reads (by unfold Short; rw [hl2.out]; omega) hi2.out
        clear own7
        have hS7 := hSx.out v7 e7q
        go_wp2_with fail
        refine hK.out _ _ hS7 (fun _ => ?_)
        clear hK K
        try simp only [List.getElem_toArray, List.getElem_cons_succ, List.getElem_cons_zero, Act.put, List.setIfInBounds_toArray, List.set_cons_zero, List.set_cons_succ]
        refine wpAnyH_ready (rs := [22]) (by kernel_rfl) (by simp) ?_
        refine AllReadyH.cons rfl (fun K hK => ?_) AllReadyH.nil
        go_simp
        go_at_call 81
        have e07 : Ext w0 v7 := Ext.trans e0q e7q
        refine (l7Index_any (w0 := v7) (w := v7) (hP'.ext (e := e07)) hU7 hm2.out).mono ?_
        rw [ha2.out]
        rintro e v8 ⟨rfl, e8⟩
        have e8q : Ext wq v8 := Ext.trans e7q e8
        have hS8 := hSx.out v8 e8q
        go_wp2_with fail
        refine hK.out _ _ hS8 (fun _ => ?_)
        clear hK K
        try simp only [List.getElem_toArray, List.getElem_cons_succ, List.getElem_cons_zero, Act.put, List.setIfInBounds_toArray, List.set_cons_zero, List.set_cons_succ]
        refine wpAnyH_take (i := 23) (v := .pointer (some ⟨bw, ow + t2, none⟩)) rfl (by kernel_rfl) (by kernel_rfl) (by kernel_rfl) (fun _ _ _ h => h) (Or.inl ⟨by rfl, by intro wx hx; go_simp⟩) (by assumption) ?_
        try simp only [List.getElem_toArray, List.getElem_cons_succ, List.getElem_cons_zero, Act.put, List.setIfInBounds_toArray, List.set_cons_zero, List.set_cons_succ]
        refine wpAnyH_take (i := 24) (v := .int .i64 w2) rfl (by kernel_rfl) (by kernel_rfl) (by kernel_rfl) (fun _ _ _ h => h) (Or.inl ⟨by rfl, by intro wx hx; obtain ⟨_, _, _, _⟩ := hx; go_simp⟩) (by assumption) ?_
        try simp only [List.getElem_toArray, List.getElem_cons_succ, List.getElem_cons_zero, Act.put, List.setIfInBounds_toArray, List.set_cons_zero, List.set_cons_succ]
        refine wpAnyH_take (i := 25) (v := .int .i64 (w1 + w2)) rfl (by kernel_rfl) (by kernel_rfl) (by kernel_rfl) (fun _ _ _ h => h) (Or.inl ⟨by rfl, by intro wx hx; go_simp⟩) (by assumption) ?_
        try simp only [List.getElem_toArray, List.getElem_cons_succ, List.getElem_cons_zero, Act.put, List.setIfInBounds_toArray, List.set_cons_zero, List.set_cons_succ]
        refine wpAnyH_take (i := 26) (v := .bool true) rfl (by kernel_rfl) (by kernel_rfl) (by kernel_rfl) (fun _ _ _ h => h) (Or.inl ⟨by rfl, by intro wx hx; go_simp⟩) (by assumption) ?_
        try simp only [List.getElem_toArray, List.getElem_cons_succ, List.getElem_cons_zero, Act.put, List.setIfInBounds_toArray, List.set_cons_zero, List.set_cons_succ]
        refine wpAnyH_done (by kernel_rfl) ?_ _
        go_wp2_with fail
        go_ret
        exact ⟨ret_bool hr.out.symm, Ext.trans hxw e8q⟩
      · have hnot2 := hid (show ∀ q, q < t + 1 → ¬ exS P ws x y s q ≤ sm from fun q hq => by
          by_cases e : q = t
          · rw [e, hex.out]; exact hg
          · exact hnot.out q (by omega))
        have hgd : decide (w1 + w2 ≤ sm) = false := decide_eq_false hg
        replace hg := hid hg
        go_wp2_with fail
        refine region_held_from (w0 := wq) (S := fun u => u.cell? ⟨bY, oY + t, none⟩ = some (.int .i64 yt) ∧ u.cell? ⟨bX, oX + s, none⟩ = some (.int .i64 xs) ∧ u.cell? ⟨bw, ow + t1, none⟩ = some (.int .i64 w1) ∧ u.cell? ⟨bw, ow + t2, none⟩ = some (.int .i64 w2)) (by kernel_rfl) hSx.out (fun wd ed hHeld0 => ?_)
        have e0d : Ext w0 wd := Ext.trans e0q ed
        refine wpAnyH_take (i := 0) (v := .int .i64 sm) rfl (by kernel_rfl) (by kernel_rfl) (by kernel_rfl) (fun _ _ _ h => h) (Or.inl ⟨by rfl, by intro wx hx; go_simp⟩) (by assumption) ?_
        try simp only [List.getElem_toArray, List.getElem_cons_zero, Act.put, List.setIfInBounds_toArray, List.set_cons_zero, List.set_cons_succ]
        refine wpAnyH_take (i := 1) (v := .slice (some ⟨bw, ow, none⟩) ws.length mw) rfl (by kernel_rfl) (by kernel_rfl) (by kernel_rfl) (fun _ _ _ h => h) (Or.inl ⟨by rfl, by intro wx hx; go_simp⟩) (by assumption) ?_
        try simp only [List.getElem_toArray, List.getElem_cons_succ, List.getElem_cons_zero, Act.put, List.setIfInBounds_toArray, List.set_cons_zero, List.set_cons_succ]
        refine wpAnyH_take (i := 2) (v := .slice aP P.length cP) rfl (by kernel_rfl) (by kernel_rfl) (by kernel_rfl) (fun _ _ _ h => h) (Or.inl ⟨by rfl, by intro wx hx; go_simp⟩) (by assumption) ?_
        try simp only [List.getElem_toArray, List.getElem_cons_succ, List.getElem_cons_zero, Act.put, List.setIfInBounds_toArray, List.set_cons_zero, List.set_cons_succ]
        refine wpAnyH_take (i := 3) (v := .slice (some ⟨bX, oX, none⟩) x.length mx) rfl (by kernel_rfl) (by kernel_rfl) (by kernel_rfl) (fun _ _ _ h => h) (Or.inl ⟨by rfl, by intro wx hx; go_simp⟩) (by assumption) ?_
        try simp only [List.getElem_toArray, List.getElem_cons_succ, List.getElem_cons_zero, Act.put, List.setIfInBounds_toArray, List.set_cons_zero, List.set_cons_succ]
        refine wpAnyH_take (i := 4) (v := .int .i64 s) rfl (by kernel_rfl) (by kernel_rfl) (by kernel_rfl) (fun _ _ _ h => h) (Or.inl ⟨by rfl, by intro wx hx; go_simp⟩) (by assumption) ?_
        try simp only [List.getElem_toArray, List.getElem_cons_succ, List.getElem_cons_zero, Act.put, List.setIfInBounds_toArray, List.set_cons_zero, List.set_cons_succ]
        refine wpAnyH_take (i := 5) (v := .slice (some ⟨bY, oY, none⟩) y.length my) rfl (by kernel_rfl) (by kernel_rfl) (by kernel_rfl) (fun _ _ _ h => h) (Or.inl ⟨by rfl, by intro wx hx; go_simp⟩) (by assumption) ?_
        try simp only [List.getElem_toArray, List.getElem_cons_succ, List.getElem_cons_zero, Act.put, List.setIfInBounds_toArray, List.set_cons_zero, List.set_cons_succ]
        refine wpAnyH_take (i := 6) (v := .int .i64 t) rfl (by kernel_rfl) (by kernel_rfl) (by kernel_rfl) (fun _ _ _ h => h) (Or.inl ⟨by rfl, by intro wx hx; go_simp⟩) (by assumption) ?_
        try simp only [List.getElem_toArray, List.getElem_cons_succ, List.getElem_cons_zero, Act.put, List.setIfInBounds_toArray, List.set_cons_zero, List.set_cons_succ]
        refine wpAnyH_take (i := 7) (v := .pointer (some ⟨bY, oY + t, none⟩)) rfl (by kernel_rfl) (by kernel_rfl) (by kernel_rfl) (fun _ _ _ h => h) (Or.inl ⟨by rfl, by intro wx hx; go_simp⟩) (by assumption) ?_
        try simp only [List.getElem_toArray, List.getElem_cons_succ, List.getElem_cons_zero, Act.put, List.setIfInBounds_toArray, List.set_cons_zero, List.set_cons_succ]
        refine wpAnyH_take (i := 8) (v := .int .i64 yt) rfl (by kernel_rfl) (by kernel_rfl) (by kernel_rfl) (fun _ _ _ h => h) (Or.inl ⟨by rfl, by intro wx hx; obtain ⟨_, _, _, _⟩ := hx; go_simp⟩) (by assumption) ?_
        try simp only [List.getElem_toArray, List.getElem_cons_succ, List.getElem_cons_zero, Act.put, List.setIfInBounds_toArray, List.set_cons_zero, List.set_cons_succ]
        refine wpAnyH_take (i := 13) (v := .slice (some ⟨bw, ow, none⟩) ws.length mw) rfl (by kernel_rfl) (by kernel_rfl) (by kernel_rfl) (fun _ _ _ h => h) (Or.inl ⟨by rfl, by intro wx hx; go_simp⟩) (by assumption) ?_
        try simp only [List.getElem_toArray, List.getElem_cons_succ, List.getElem_cons_zero, Act.put, List.setIfInBounds_toArray, List.set_cons_zero, List.set_cons_succ]
        refine wpAnyH_take (i := 14) (v := .slice aP P.length cP) rfl (by kernel_rfl) (by kernel_rfl) (by kernel_rfl) (fun _ _ _ h => h) (Or.inl ⟨by rfl, by intro wx hx; go_simp⟩) (by assumption) ?_
        try simp only [List.getElem_toArray, List.getElem_cons_succ, List.getElem_cons_zero, Act.put, List.setIfInBounds_toArray, List.set_cons_zero, List.set_cons_succ]
        refine wpAnyH_take (i := 15) (v := .slice (some ⟨bY, oY, none⟩) y.length my) rfl (by kernel_rfl) (by kernel_rfl) (by kernel_rfl) (fun _ _ _ h => h) (Or.inl ⟨by rfl, by intro wx hx; go_simp⟩) (by assumption) ?_
        try simp only [List.getElem_toArray, List.getElem_cons_succ, List.getElem_cons_zero, Act.put, List.setIfInBounds_toArray, List.set_cons_zero, List.set_cons_succ]
        refine wpAnyH_take (i := 16) (v := .int .i64 t) rfl (by kernel_rfl) (by kernel_rfl) (by kernel_rfl) (fun _ _ _ h => h) (Or.inl ⟨by rfl, by intro wx hx; go_simp⟩) (by assumption) ?_
        try simp only [List.getElem_toArray, List.getElem_cons_succ, List.getElem_cons_zero, Act.put, List.setIfInBounds_toArray, List.set_cons_zero, List.set_cons_succ]
        refine wpAnyH_take (i := 17) (v := .slice (some ⟨bX, oX, none⟩) x.length mx) rfl (by kernel_rfl) (by kernel_rfl) (by kernel_rfl) (fun _ _ _ h => h) (Or.inl ⟨by rfl, by intro wx hx; go_simp⟩) (by assumption) ?_
        try simp only [List.getElem_toArray, List.getElem_cons_succ, List.getElem_cons_zero, Act.put, List.setIfInBounds_toArray, List.set_cons_zero, List.set_cons_succ]
        refine wpAnyH_take (i := 18) (v := .int .i64 s) rfl (by kernel_rfl) (by kernel_rfl) (by kernel_rfl) (fun _ _ _ h => h) (Or.inl ⟨by rfl, by intro wx hx; go_simp⟩) (by assumption) ?_
        try simp only [List.getElem_toArray, List.getElem_cons_succ, List.getElem_cons_zero, Act.put, List.setIfInBounds_toArray, List.set_cons_zero, List.set_cons_succ]
        refine wpAnyH_take (i := 19) (v := .pointer (some ⟨bX, oX + s, none⟩)) rfl (by kernel_rfl) (by kernel_rfl) (by kernel_rfl) (fun _ _ _ h => h) (Or.inl ⟨by rfl, by intro wx hx; go_simp⟩) (by assumption) ?_
        try simp only [List.getElem_toArray, List.getElem_cons_succ, List.getElem_cons_zero, Act.put, List.setIfInBounds_toArray, List.set_cons_zero, List.set_cons_succ]
        refine wpAnyH_take (i := 20) (v := .int .i64 xs) rfl (by kernel_rfl) (by kernel_rfl) (by kernel_rfl) (fun _ _ _ h => h) (Or.inl ⟨by rfl, by intro wx hx; obtain ⟨_, _, _, _⟩ := hx; go_simp⟩) (by assumption) ?_
        try simp only [List.getElem_toArray, List.getElem_cons_succ, List.getElem_cons_zero, Act.put, List.setIfInBounds_toArray, List.set_cons_zero, List.set_cons_succ]
        refine wpAnyH_ready (rs := [9]) (by kernel_rfl) (by simp) ?_
        refine AllReadyH.cons rfl (fun K hK => ?_) AllReadyH.nil
        go_simp
        go_at_call 128
        refine (l7Swap_any (w0 := w0) hx' hsx hyi.out (by omega)).mono ?_
        rintro e v5 ⟨u5, rfl, own5, e5⟩
        have e5q : Ext wq v5 := Ext.trans ed e5
        have hU : IsInts v5 u5 (sortL (x.set s yt)) := own5.reads (by unfold Short; rw [hl1.out]; omega) hi1.out
        clear own5
        have hS5 := hSx.out v5 e5q
        go_wp2_with fail
        refine hK.out _ _ hS5 (fun _ => ?_)
        clear hK K
        try simp only [List.getElem_toArray, List.getElem_cons_succ, List.getElem_cons_zero, Act.put, List.setIfInBounds_toArray, List.set_cons_zero, List.set_cons_succ]
        refine wpAnyH_ready (rs := [10]) (by kernel_rfl) (by simp) ?_
        refine AllReadyH.cons rfl (fun K hK => ?_) AllReadyH.nil
        go_simp
        go_at_call 81
        have e05 : Ext w0 v5 := Ext.trans e0q e5q
        refine (l7Index_any (w0 := v5) (w := v5) (hP'.ext (e := e05)) hU hm1.out).mono ?_
        rw [ha1.out]
        rintro e v6 ⟨rfl, e6⟩
        have e6q : Ext wq v6 := Ext.trans e5q e6
        have hS6 := hSx.out v6 e6q
        have e06 : Ext w0 v6 := Ext.trans e0q e6q
        go_wp2_with fail
        refine hK.out _ _ hS6 (fun _ => ?_)
        clear hK K
        try simp only [List.getElem_toArray, List.getElem_cons_succ, List.getElem_cons_zero, Act.put, List.setIfInBounds_toArray, List.set_cons_zero, List.set_cons_succ]
        refine wpAnyH_take (i := 11) (v := .pointer (some ⟨bw, ow + t1, none⟩)) rfl (by kernel_rfl) (by kernel_rfl) (by kernel_rfl) (fun _ _ _ h => h) (Or.inl ⟨by rfl, by intro wx hx; go_simp⟩) (by assumption) ?_
        try simp only [List.getElem_toArray, List.getElem_cons_succ, List.getElem_cons_zero, Act.put, List.setIfInBounds_toArray, List.set_cons_zero, List.set_cons_succ]
        refine wpAnyH_take (i := 12) (v := .int .i64 w1) rfl (by kernel_rfl) (by kernel_rfl) (by kernel_rfl) (fun _ _ _ h => h) (Or.inl ⟨by rfl, by intro wx hx; obtain ⟨_, _, _, _⟩ := hx; go_simp⟩) (by assumption) ?_
        try simp only [List.getElem_toArray, List.getElem_cons_succ, List.getElem_cons_zero, Act.put, List.setIfInBounds_toArray, List.set_cons_zero, List.set_cons_succ]
        refine wpAnyH_ready (rs := [21]) (by kernel_rfl) (by simp) ?_
        refine AllReadyH.cons rfl (fun K hK => ?_) AllReadyH.nil
        go_simp
        go_at_call 128
        refine (l7Swap_any (w0 := w0) hy' hty hxi.out (by omega)).mono ?_
        rintro e v7 ⟨u7, rfl, own7, e7⟩
        have e7q : Ext wq v7 := Ext.trans e6q e7
        have hU7 : IsInts v7 u7 (sortL (y.set t xs)) := own7.reads (by unfold Short; rw [hl2.out]; omega) hi2.out
        clear own7
        have hS7 := hSx.out v7 e7q
        go_wp2_with fail
        refine hK.out _ _ hS7 (fun _ => ?_)
        clear hK K
        try simp only [List.getElem_toArray, List.getElem_cons_succ, List.getElem_cons_zero, Act.put, List.setIfInBounds_toArray, List.set_cons_zero, List.set_cons_succ]
        refine wpAnyH_ready (rs := [22]) (by kernel_rfl) (by simp) ?_
        refine AllReadyH.cons rfl (fun K hK => ?_) AllReadyH.nil
        go_simp
        go_at_call 81
        have e07 : Ext w0 v7 := Ext.trans e0q e7q
        refine (l7Index_any (w0 := v7) (w := v7) (hP'.ext (e := e07)) hU7 hm2.out).mono ?_
        rw [ha2.out]
        rintro e v8 ⟨rfl, e8⟩
        have e8q : Ext wq v8 := Ext.trans e7q e8
        have hS8 := hSx.out v8 e8q
        go_wp2_with fail
        refine hK.out _ _ hS8 (fun _ => ?_)
        clear hK K
        try simp only [List.getElem_toArray, List.getElem_cons_succ, List.getElem_cons_zero, Act.put, List.setIfInBounds_toArray, List.set_cons_zero, List.set_cons_succ]
        refine wpAnyH_take (i := 23) (v := .pointer (some ⟨bw, ow + t2, none⟩)) rfl (by kernel_rfl) (by kernel_rfl) (by kernel_rfl) (fun _ _ _ h => h) (Or.inl ⟨by rfl, by intro wx hx; go_simp⟩) (by assumption) ?_
        try simp only [List.getElem_toArray, List.getElem_cons_succ, List.getElem_cons_zero, Act.put, List.setIfInBounds_toArray, List.set_cons_zero, List.set_cons_succ]
        refine wpAnyH_take (i := 24) (v := .int .i64 w2) rfl (by kernel_rfl) (by kernel_rfl) (by kernel_rfl) (fun _ _ _ h => h) (Or.inl ⟨by rfl, by intro wx hx; obtain ⟨_, _, _, _⟩ := hx; go_simp⟩) (by assumption) ?_
        try simp only [List.getElem_toArray, List.getElem_cons_succ, List.getElem_cons_zero, Act.put, List.setIfInBounds_toArray, List.set_cons_zero, List.set_cons_succ]
        refine wpAnyH_take (i := 25) (v := .int .i64 (w1 + w2)) rfl (by kernel_rfl) (by kernel_rfl) (by kernel_rfl) (fun _ _ _ h => h) (Or.inl ⟨by rfl, by intro wx hx; go_simp⟩) (by assumption) ?_
        try simp only [List.getElem_toArray, List.getElem_cons_succ, List.getElem_cons_zero, Act.put, List.setIfInBounds_toArray, List.set_cons_zero, List.set_cons_succ]
        refine wpAnyH_take (i := 26) (v := .bool false) rfl (by kernel_rfl) (by kernel_rfl) (by kernel_rfl) (fun _ _ _ h => h) (Or.inl ⟨by rfl, by intro wx hx; go_simp⟩) (by assumption) ?_
        try simp only [List.getElem_toArray, List.getElem_cons_succ, List.getElem_cons_zero, Act.put, List.setIfInBounds_toArray, List.set_cons_zero, List.set_cons_succ]
        refine wpAnyH_done (by kernel_rfl) ?_ _
        go_wp2_with fail
        go_roundw
        case rel => exact ⟨t + 1, by omega, by go_num, hid (fun q hq => by have := hnot2.out q hq; omega), Ext.trans hxw e8q⟩
        case measure => simp [intOf]; omega
    · have hr := hid (hno.out fun q hq => by have := hnot.out q (by omega); omega)
      go_wp2_with fail
      go_ret
      exact ⟨ret_bool hr.out.symm, hxw⟩
end Go.Proofs.YtmgcfnciejfpbaaGreat
