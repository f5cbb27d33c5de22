/- Tight pairs and the grid walked: l7Tight, l7Grid. -/
import Derived.Test.YtllfchcocgdcjaaGreatFwD
import Derived.Test.YtllfchcocgdcjaaGreatFwP
import Derived.Test.YtllfchcocgdcjaaGreatChS
namespace Go.Proofs.YtllfchcocgdcjaaGreat
open Go.RowKit

/-- a pair that prices and rents just pay for -/
def tgtB (k : Nat) (c : Nat → Nat → Int) (p r : Nat → Int) (l i : Nat) : Bool := alB k i l && (p i - r l == c i l)
set_option maxHeartbeats 3200000 in
set_option maxRecDepth 100000 in
theorem l7Tight_any {v va vX vp vr : Value} {M : List (List Int)} {a X : List Int} {p r : Nat → Int} {l i : Nat} {w0 w : World} [Ext w0 w] (hm : IsMet w0 v M) (ha : IsInts w0 va a) (hXi : IsInts w0 vX X) (hp : IsInts w0 vp ((List.range X.length).map p)) (hr : IsInts w0 vr ((List.range (a.length + X.length)).map r)) (hs : srvB M a X = true)
    (hpb : ∀ i, i < X.length → 0 ≤ p i ∧ p i ≤ 99999) (hrb : ∀ l, l < a.length + X.length → 0 ≤ r l ∧ r l ≤ 99999) (hi : i < X.length) (hl : l < a.length + X.length) :
    Calls Tryz.prog 30 #[v, va, vX, vp, vr, .int .i64 l, .int .i64 i] w fun e w' => e = .returned (.bool (tgtB a.length (flC M a X) p r l i)) ∧ Ext w w' := by
  obtain ⟨hM, hal, hab, hXb, hXl⟩ := srv_pts hs
  have hG := hid (fun (u : World) (e : Ext w0 u) (hk : l < a.length + i) => @l7Gap_any v va vX M a X l i w0 u e hm ha hXi hM hab hXb hi hk (by omega))
  obtain ⟨v1, rfl, hR⟩ := hm
  obtain ⟨a1, c1, rfl, l1⟩ := hR.form
  obtain ⟨da, ma, rfl, la⟩ := ha.form
  obtain ⟨dx, mx, rfl, lx⟩ := hXi.form
  obtain ⟨dp, mp, rfl, lp⟩ := hp.form
  obtain ⟨dr, mr, rfl, lr⟩ := hr.form
  obtain ⟨bp, op, hdp, -⟩ := hp.at (w' := w0) (k := i) (by simpa using hi)
  cases hdp
  obtain ⟨br, or', hdr, -⟩ := hr.at (w' := w0) (k := l) (by simpa using hl)
  cases hdr
  have hpc := hid (fun (u : World) (e : Ext w0 u) => (show u.cell? ⟨bp, op + i, none⟩ = some (.int .i64 (p i)) from by
    obtain ⟨b', o', hd, hc⟩ := hp.at (w' := u) (k := i) (by simpa using hi)
    cases hd
    rw [nth_range hi] at hc
    exact hc))
  have hrc := hid (fun (u : World) (e : Ext w0 u) => (show u.cell? ⟨br, or' + l, none⟩ = some (.int .i64 (r l)) from by
    obtain ⟨b', o', hd, hc⟩ := hr.at (w' := u) (k := l) (by simpa using hl)
    cases hd
    rw [nth_range hl] at hc
    exact hc))
  have hp1 := hpb i hi
  have hr1 := hrb l hl
  obtain ⟨x, hx⟩ : ∃ x, x = p i := ⟨_, rfl⟩
  obtain ⟨y, hy⟩ : ∃ y, y = r l := ⟨_, rfl⟩
  obtain ⟨g, hg⟩ : ∃ g, g = flC M a X i l := ⟨_, rfl⟩
  have hval : tgtB a.length (flC M a X) p r l i = (decide (l < a.length + i) && (x - y == g)) := by
    unfold tgtB alB
    rw [hx, hy, hg]
  obtain ⟨T, hT⟩ : ∃ T, T = tgtB a.length (flC M a X) p r l i := ⟨_, rfl⟩
  rw [← hT] at hval ⊢
  replace hT := hid hT
  rw [← hg] at hG
  rw [← hx] at hp1 hpc
  rw [← hy] at hr1 hrc
  replace hx := hid hx
  replace hy := hid hy
  replace hg := hid hg
  replace hval := hid hval
  rw [List.length_map, List.length_range]
  rw [List.length_map, List.length_range]
  clear hs hM hab hXb hp hr lp lr hpb hrb
  obtain ⟨W, hW⟩ : ∃ W, W = w.alloc (.cells #[.slice a1 M.length c1] 26) := ⟨_, rfl⟩
  have eW : Ext w W := by rw [hW]; infer_instance
  have x0 : W.cell? ⟨w.heap.size, 0, none⟩ = some (.slice a1 M.length c1) := by rw [hW]; go_simp
  go_enter Tryz.func30, Tryz.ntmps30
  go_upto_region 1 with fail
  rw [← hW]
  replace hW := hid hW
  obtain ⟨b, hb⟩ : ∃ b, b = w.heap.size := ⟨_, rfl⟩
  rw [← hb] at x0 ⊢
  replace hb := hid hb
  have e0W : Ext w0 W := Ext.trans ‹Ext w0 w› eW
  refine region_held_from (w0 := W) (S := fun u => u.cell? ⟨b, 0, none⟩ = some (.slice a1 M.length c1) ∧ u.cell? ⟨bp, op + i, none⟩ = some (.int .i64 x) ∧ u.cell? ⟨br, or' + l, none⟩ = some (.int .i64 y)) (by kernel_rfl) (fun u e => ⟨e.cell x0, hpc.out u (Ext.trans e0W e), hrc.out u (Ext.trans e0W e)⟩) (fun wd ed hHeld0 => ?_)
  have e0d : Ext w0 wd := Ext.trans e0W ed
  by_cases hlt : l < a.length + i
  · skip
    refine wpAnyH_take (i := 0) (v := .int .i64 l) rfl (by kernel_rfl) (by kernel_rfl) (by kernel_rfl) (fun _ _ _ h => h) (Or.inl ⟨by rfl, by intro wx hx; go_simp⟩) (by assumption) ?_
    try simp only [List.getElem_toArray, List.getElem_cons_zero, Act.put, List.setIfInBounds_toArray, List.set_cons_zero, List.set_cons_succ]
    refine wpAnyH_take (i := 1) (v := .slice da a.length ma) rfl (by kernel_rfl) (by kernel_rfl) (by kernel_rfl) (fun _ _ _ h => h) (Or.inl ⟨by rfl, by intro wx hx; go_simp⟩) (by assumption) ?_
    try simp only [List.getElem_toArray, List.getElem_cons_succ, List.getElem_cons_zero, Act.put, List.setIfInBounds_toArray, List.set_cons_zero, List.set_cons_succ]
    refine wpAnyH_take (i := 2) (v := .int .i64 a.length) rfl (by kernel_rfl) (by kernel_rfl) (by kernel_rfl) (fun _ _ _ h => h) (Or.inl ⟨by rfl, by intro wx hx; go_simp⟩) (by assumption) ?_
    try simp only [List.getElem_toArray, List.getElem_cons_succ, List.getElem_cons_zero, Act.put, List.setIfInBounds_toArray, List.set_cons_zero, List.set_cons_succ]
    refine wpAnyH_take (i := 3) (v := .int .i64 i) rfl (by kernel_rfl) (by kernel_rfl) (by kernel_rfl) (fun _ _ _ h => h) (Or.inl ⟨by rfl, by intro wx hx; go_simp⟩) (by assumption) ?_
    try simp only [List.getElem_toArray, List.getElem_cons_succ, List.getElem_cons_zero, Act.put, List.setIfInBounds_toArray, List.set_cons_zero, List.set_cons_succ]
    refine wpAnyH_take (i := 4) (v := .int .i64 ((a.length : Int) + (i : Int))) rfl (by kernel_rfl) (by kernel_rfl) (by kernel_rfl) (fun _ _ _ h => h) (Or.inl ⟨by rfl, by intro wx hx; go_simp; exact IntWalk.i64_in _ (by omega)⟩) (by assumption) ?_
    try simp only [List.getElem_toArray, List.getElem_cons_succ, List.getElem_cons_zero, Act.put, List.setIfInBounds_toArray, List.set_cons_zero, List.set_cons_succ]
    refine wpAnyH_take (i := 5) (v := .bool true) rfl (by kernel_rfl) (by kernel_rfl) (by kernel_rfl) (fun _ _ _ h => h) (Or.inl ⟨by rfl, by intro wx hx; go_simp; omega⟩) (by assumption) ?_
    try simp only [List.getElem_toArray, List.getElem_cons_succ, List.getElem_cons_zero, Act.put, List.setIfInBounds_toArray, List.set_cons_zero, List.set_cons_succ]
    refine wpAnyH_take (i := 6) (v := .bool true) rfl (by kernel_rfl) (by kernel_rfl) (by kernel_rfl) (fun _ _ _ h => h) (Or.inl ⟨by rfl, by intro wx hx; go_simp⟩) (by assumption) ?_
    try simp only [List.getElem_toArray, List.getElem_cons_succ, List.getElem_cons_zero, Act.put, List.setIfInBounds_toArray, List.set_cons_zero, List.set_cons_succ]
    refine wpAnyH_take (i := 7) (v := .slice (some ⟨bp, op, none⟩) X.length mp) rfl (by kernel_rfl) (by kernel_rfl) (by kernel_rfl) (fun _ _ _ h => h) (Or.inl ⟨by rfl, by intro wx hx; go_simp⟩) (by assumption) ?_
    try simp only [List.getElem_toArray, List.getElem_cons_succ, List.getElem_cons_zero, Act.put, List.setIfInBounds_toArray, List.set_cons_zero, List.set_cons_succ]
    refine wpAnyH_take (i := 8) (v := .int .i64 i) rfl (by kernel_rfl) (by kernel_rfl) (by kernel_rfl) (fun _ _ _ h => h) (Or.inl ⟨by rfl, by intro wx hx; go_simp⟩) (by assumption) ?_
    try simp only [List.getElem_toArray, List.getElem_cons_succ, List.getElem_cons_zero, Act.put, List.setIfInBounds_toArray, List.set_cons_zero, List.set_cons_succ]
    refine wpAnyH_take (i := 9) (v := .pointer (some ⟨bp, op + i, none⟩)) rfl (by kernel_rfl) (by kernel_rfl) (by kernel_rfl) (fun _ _ _ h => h) (Or.inl ⟨by rfl, by intro wx hx; go_simp⟩) (by assumption) ?_
    try simp only [List.getElem_toArray, List.getElem_cons_succ, List.getElem_cons_zero, Act.put, List.setIfInBounds_toArray, List.set_cons_zero, List.set_cons_succ]
    refine wpAnyH_take (i := 10) (v := .int .i64 x) rfl (by kernel_rfl) (by kernel_rfl) (by kernel_rfl) (fun _ _ _ h => h) (Or.inl ⟨by rfl, by intro wx hx; obtain ⟨_, _, _⟩ := hx; go_simp⟩) (by assumption) ?_
    try simp only [List.getElem_toArray, List.getElem_cons_succ, List.getElem_cons_zero, Act.put, List.setIfInBounds_toArray, List.set_cons_zero, List.set_cons_succ]
    refine wpAnyH_take (i := 11) (v := .slice (some ⟨br, or', none⟩) (a.length + X.length) mr) rfl (by kernel_rfl) (by kernel_rfl) (by kernel_rfl) (fun _ _ _ h => h) (Or.inl ⟨by rfl, by intro wx hx; go_simp⟩) (by assumption) ?_
    try simp only [List.getElem_toArray, List.getElem_cons_succ, List.getElem_cons_zero, Act.put, List.setIfInBounds_toArray, List.set_cons_zero, List.set_cons_succ]
    refine wpAnyH_take (i := 12) (v := .int .i64 l) rfl (by kernel_rfl) (by kernel_rfl) (by kernel_rfl) (fun _ _ _ h => h) (Or.inl ⟨by rfl, by intro wx hx; go_simp⟩) (by assumption) ?_
    try simp only [List.getElem_toArray, List.getElem_cons_succ, List.getElem_cons_zero, Act.put, List.setIfInBounds_toArray, List.set_cons_zero, List.set_cons_succ]
    refine wpAnyH_take (i := 13) (v := .pointer (some ⟨br, or' + l, none⟩)) rfl (by kernel_rfl) (by kernel_rfl) (by kernel_rfl) (fun _ _ _ h => h) (Or.inl ⟨by rfl, by intro wx hx; go_simp; try (intro h; omega)⟩) (by assumption) ?_
    try simp only [List.getElem_toArray, List.getElem_cons_succ, List.getElem_cons_zero, Act.put, List.setIfInBounds_toArray, List.set_cons_zero, List.set_cons_succ]
    refine wpAnyH_take (i := 14) (v := .int .i64 y) rfl (by kernel_rfl) (by kernel_rfl) (by kernel_rfl) (fun _ _ _ h => h) (Or.inl ⟨by rfl, by intro wx hx; obtain ⟨_, _, _⟩ := hx; go_simp⟩) (by assumption) ?_
    try simp only [List.getElem_toArray, List.getElem_cons_succ, List.getElem_cons_zero, Act.put, List.setIfInBounds_toArray, List.set_cons_zero, List.set_cons_succ]
    refine wpAnyH_take (i := 15) (v := .int .i64 (x - y)) rfl (by kernel_rfl) (by kernel_rfl) (by kernel_rfl) (fun _ _ _ h => h) (Or.inl ⟨by rfl, by intro wx hx; go_simp; exact IntWalk.i64_in _ (by omega)⟩) (by assumption) ?_
    try simp only [List.getElem_toArray, List.getElem_cons_succ, List.getElem_cons_zero, Act.put, List.setIfInBounds_toArray, List.set_cons_zero, List.set_cons_succ]
    refine wpAnyH_take (i := 16) (v := .agg #[.slice a1 M.length c1]) rfl (by kernel_rfl) (by kernel_rfl) (by kernel_rfl) (fun _ _ _ h => h) (Or.inl ⟨by rfl, by intro wx hx; obtain ⟨_, _, _⟩ := hx; go_simp⟩) (by assumption) ?_
    try simp only [List.getElem_toArray, List.getElem_cons_succ, List.getElem_cons_zero, Act.put, List.setIfInBounds_toArray, List.set_cons_zero, List.set_cons_succ]
    refine wpAnyH_take (i := 17) (v := .slice da a.length ma) rfl (by kernel_rfl) (by kernel_rfl) (by kernel_rfl) (fun _ _ _ h => h) (Or.inl ⟨by rfl, by intro wx hx; go_simp⟩) (by assumption) ?_
    try simp only [List.getElem_toArray, List.getElem_cons_succ, List.getElem_cons_zero, Act.put, List.setIfInBounds_toArray, List.set_cons_zero, List.set_cons_succ]
    refine wpAnyH_take (i := 18) (v := .slice dx X.length mx) rfl (by kernel_rfl) (by kernel_rfl) (by kernel_rfl) (fun _ _ _ h => h) (Or.inl ⟨by rfl, by intro wx hx; go_simp⟩) (by assumption) ?_
    try simp only [List.getElem_toArray, List.getElem_cons_succ, List.getElem_cons_zero, Act.put, List.setIfInBounds_toArray, List.set_cons_zero, List.set_cons_succ]
    refine wpAnyH_take (i := 19) (v := .int .i64 l) rfl (by kernel_rfl) (by kernel_rfl) (by kernel_rfl) (fun _ _ _ h => h) (Or.inl ⟨by rfl, by intro wx hx; go_simp⟩) (by assumption) ?_
    try simp only [List.getElem_toArray, List.getElem_cons_succ, List.getElem_cons_zero, Act.put, List.setIfInBounds_toArray, List.set_cons_zero, List.set_cons_succ]
    refine wpAnyH_take (i := 20) (v := .int .i64 i) rfl (by kernel_rfl) (by kernel_rfl) (by kernel_rfl) (fun _ _ _ h => h) (Or.inl ⟨by rfl, by intro wx hx; go_simp⟩) (by assumption) ?_
    try simp only [List.getElem_toArray, List.getElem_cons_succ, List.getElem_cons_zero, Act.put, List.setIfInBounds_toArray, List.set_cons_zero, List.set_cons_succ]
    refine wpAnyH_ready (rs := [21]) (by kernel_rfl) (by simp) ?_
    refine AllReadyH.cons rfl (fun K hK => ?_) AllReadyH.nil
    go_simp
    refine (hG.out wd e0d hlt).mono ?_
    rintro e w2 ⟨rfl, e2⟩
    have e3 : Ext W w2 := Ext.trans ed e2
    refine hK.out _ _ ⟨e3.cell x0, hpc.out _ (Ext.trans e0W e3), hrc.out _ (Ext.trans e0W e3)⟩ (fun _ => ?_)
    clear hK K
    try simp only [List.getElem_toArray, List.getElem_cons_succ, List.getElem_cons_zero, Act.put, List.setIfInBounds_toArray, List.set_cons_zero, List.set_cons_succ]
    have hS2 := (show w2.cell? ⟨b, 0, none⟩ = some (.slice a1 M.length c1) ∧ w2.cell? ⟨bp, op + i, none⟩ = some (.int .i64 x) ∧ w2.cell? ⟨br, or' + l, none⟩ = some (.int .i64 y) from ⟨e3.cell x0, hpc.out _ (Ext.trans e0W e3), hrc.out _ (Ext.trans e0W e3)⟩)
    refine wpAnyH_take (i := 22) (v := .bool (x - y == g)) rfl (by kernel_rfl) (by kernel_rfl) (by kernel_rfl) (fun _ _ _ h => h) (Or.inl ⟨by rfl, by intro wx hx; go_simp⟩) (by assumption) ?_
    try simp only [List.getElem_toArray, List.getElem_cons_succ, List.getElem_cons_zero, Act.put, List.setIfInBounds_toArray, List.set_cons_zero, List.set_cons_succ]
    refine wpAnyH_take (i := 23) (v := .bool (x - y == g)) rfl (by kernel_rfl) (by kernel_rfl) (by kernel_rfl) (fun _ _ _ h => h) (Or.inl ⟨by rfl, by intro wx hx; go_simp⟩) (by assumption) ?_
    try simp only [List.getElem_toArray, List.getElem_cons_succ, List.getElem_cons_zero, Act.put, List.setIfInBounds_toArray, List.set_cons_zero, List.set_cons_succ]
    refine wpAnyH_take (i := 24) (v := .bool (x - y == g)) rfl (by kernel_rfl) (by kernel_rfl) (by kernel_rfl) (fun _ _ _ h => h) (Or.inl ⟨by rfl, by intro wx hx; go_simp⟩) (by assumption) ?_
    try simp only [List.getElem_toArray, List.getElem_cons_succ, List.getElem_cons_zero, Act.put, List.setIfInBounds_toArray, List.set_cons_zero, List.set_cons_succ]
    refine wpAnyH_done (by kernel_rfl) ?_ _
    go_wp2_with fail
    go_ret
    exact ⟨by rw [hval.out, decide_eq_true hlt, Bool.true_and]; rfl, Ext.trans eW e3⟩
  · have hlt' : ¬ (l : Int) < (a.length : Int) + (i : Int) := by omega
    refine wpAnyH_take (i := 0) (v := .int .i64 l) rfl (by kernel_rfl) (by kernel_rfl) (by kernel_rfl) (fun _ _ _ h => h) (Or.inl ⟨by rfl, by intro wx hx; go_simp⟩) (by assumption) ?_
    try simp only [List.getElem_toArray, List.getElem_cons_zero, Act.put, List.setIfInBounds_toArray, List.set_cons_zero, List.set_cons_succ]
    refine wpAnyH_take (i := 1) (v := .slice da a.length ma) rfl (by kernel_rfl) (by kernel_rfl) (by kernel_rfl) (fun _ _ _ h => h) (Or.inl ⟨by rfl, by intro wx hx; go_simp⟩) (by assumption) ?_
    try simp only [List.getElem_toArray, List.getElem_cons_succ, List.getElem_cons_zero, Act.put, List.setIfInBounds_toArray, List.set_cons_zero, List.set_cons_succ]
    refine wpAnyH_take (i := 2) (v := .int .i64 a.length) rfl (by kernel_rfl) (by kernel_rfl) (by kernel_rfl) (fun _ _ _ h => h) (Or.inl ⟨by rfl, by intro wx hx; go_simp⟩) (by assumption) ?_
    try simp only [List.getElem_toArray, List.getElem_cons_succ, List.getElem_cons_zero, Act.put, List.setIfInBounds_toArray, List.set_cons_zero, List.set_cons_succ]
    refine wpAnyH_take (i := 3) (v := .int .i64 i) rfl (by kernel_rfl) (by kernel_rfl) (by kernel_rfl) (fun _ _ _ h => h) (Or.inl ⟨by rfl, by intro wx hx; go_simp⟩) (by assumption) ?_
    try simp only [List.getElem_toArray, List.getElem_cons_succ, List.getElem_cons_zero, Act.put, List.setIfInBounds_toArray, List.set_cons_zero, List.set_cons_succ]
    refine wpAnyH_take (i := 4) (v := .int .i64 ((a.length : Int) + (i : Int))) rfl (by kernel_rfl) (by kernel_rfl) (by kernel_rfl) (fun _ _ _ h => h) (Or.inl ⟨by rfl, by intro wx hx; go_simp; exact IntWalk.i64_in _ (by omega)⟩) (by assumption) ?_
    try simp only [List.getElem_toArray, List.getElem_cons_succ, List.getElem_cons_zero, Act.put, List.setIfInBounds_toArray, List.set_cons_zero, List.set_cons_succ]
    refine wpAnyH_take (i := 5) (v := .bool false) rfl (by kernel_rfl) (by kernel_rfl) (by kernel_rfl) (fun _ _ _ h => h) (Or.inl ⟨by rfl, by intro wx hx; go_simp⟩) (by assumption) ?_
    try simp only [List.getElem_toArray, List.getElem_cons_succ, List.getElem_cons_zero, Act.put, List.setIfInBounds_toArray, List.set_cons_zero, List.set_cons_succ]
    refine wpAnyH_take (i := 6) (v := .bool false) rfl (by kernel_rfl) (by kernel_rfl) (by kernel_rfl) (fun _ _ _ h => h) (Or.inl ⟨by rfl, by intro wx hx; go_simp⟩) (by assumption) ?_
    try simp only [List.getElem_toArray, List.getElem_cons_succ, List.getElem_cons_zero, Act.put, List.setIfInBounds_toArray, List.set_cons_zero, List.set_cons_succ]
    refine wpAnyH_take (i := 7) (v := undef) rfl (by kernel_rfl) (by kernel_rfl) (by kernel_rfl) (fun _ _ _ h => h) (Or.inr ⟨by kernel_rfl, rfl⟩) (by assumption) ?_
    try simp only [List.getElem_toArray, List.getElem_cons_succ, List.getElem_cons_zero, Act.put, List.setIfInBounds_toArray, List.set_cons_zero, List.set_cons_succ]
    refine wpAnyH_take (i := 8) (v := undef) rfl (by kernel_rfl) (by kernel_rfl) (by kernel_rfl) (fun _ _ _ h => h) (Or.inr ⟨by kernel_rfl, rfl⟩) (by assumption) ?_
    try simp only [List.getElem_toArray, List.getElem_cons_succ, List.getElem_cons_zero, Act.put, List.setIfInBounds_toArray, List.set_cons_zero, List.set_cons_succ]
    refine wpAnyH_take (i := 9) (v := undef) rfl (by kernel_rfl) (by kernel_rfl) (by kernel_rfl) (fun _ _ _ h => h) (Or.inr ⟨by kernel_rfl, rfl⟩) (by assumption) ?_
    try simp only [List.getElem_toArray, List.getElem_cons_succ, List.getElem_cons_zero, Act.put, List.setIfInBounds_toArray, List.set_cons_zero, List.set_cons_succ]
    refine wpAnyH_take (i := 10) (v := undef) rfl (by kernel_rfl) (by kernel_rfl) (by kernel_rfl) (fun _ _ _ h => h) (Or.inr ⟨by kernel_rfl, rfl⟩) (by assumption) ?_
    try simp only [List.getElem_toArray, List.getElem_cons_succ, List.getElem_cons_zero, Act.put, List.setIfInBounds_toArray, List.set_cons_zero, List.set_cons_succ]
    refine wpAnyH_take (i := 11) (v := undef) rfl (by kernel_rfl) (by kernel_rfl) (by kernel_rfl) (fun _ _ _ h => h) (Or.inr ⟨by kernel_rfl, rfl⟩) (by assumption) ?_
    try simp only [List.getElem_toArray, List.getElem_cons_succ, List.getElem_cons_zero, Act.put, List.setIfInBounds_toArray, List.set_cons_zero, List.set_cons_succ]
    refine wpAnyH_take (i := 12) (v := undef) rfl (by kernel_rfl) (by kernel_rfl) (by kernel_rfl) (fun _ _ _ h => h) (Or.inr ⟨by kernel_rfl, rfl⟩) (by assumption) ?_
    try simp only [List.getElem_toArray, List.getElem_cons_succ, List.getElem_cons_zero, Act.put, List.setIfInBounds_toArray, List.set_cons_zero, List.set_cons_succ]
    refine wpAnyH_take (i := 13) (v := undef) rfl (by kernel_rfl) (by kernel_rfl) (by kernel_rfl) (fun _ _ _ h => h) (Or.inr ⟨by kernel_rfl, rfl⟩) (by assumption) ?_
    try simp only [List.getElem_toArray, List.getElem_cons_succ, List.getElem_cons_zero, Act.put, List.setIfInBounds_toArray, List.set_cons_zero, List.set_cons_succ]
    refine wpAnyH_take (i := 14) (v := undef) rfl (by kernel_rfl) (by kernel_rfl) (by kernel_rfl) (fun _ _ _ h => h) (Or.inr ⟨by kernel_rfl, rfl⟩) (by assumption) ?_
    try simp only [List.getElem_toArray, List.getElem_cons_succ, List.getElem_cons_zero, Act.put, List.setIfInBounds_toArray, List.set_cons_zero, List.set_cons_succ]
    refine wpAnyH_take (i := 15) (v := undef) rfl (by kernel_rfl) (by kernel_rfl) (by kernel_rfl) (fun _ _ _ h => h) (Or.inr ⟨by kernel_rfl, rfl⟩) (by assumption) ?_
    try simp only [List.getElem_toArray, List.getElem_cons_succ, List.getElem_cons_zero, Act.put, List.setIfInBounds_toArray, List.set_cons_zero, List.set_cons_succ]
    refine wpAnyH_take (i := 16) (v := undef) rfl (by kernel_rfl) (by kernel_rfl) (by kernel_rfl) (fun _ _ _ h => h) (Or.inr ⟨by kernel_rfl, rfl⟩) (by assumption) ?_
    try simp only [List.getElem_toArray, List.getElem_cons_succ, List.getElem_cons_zero, Act.put, List.setIfInBounds_toArray, List.set_cons_zero, List.set_cons_succ]
    refine wpAnyH_take (i := 17) (v := undef) rfl (by kernel_rfl) (by kernel_rfl) (by kernel_rfl) (fun _ _ _ h => h) (Or.inr ⟨by kernel_rfl, rfl⟩) (by assumption) ?_
    try simp only [List.getElem_toArray, List.getElem_cons_succ, List.getElem_cons_zero, Act.put, List.setIfInBounds_toArray, List.set_cons_zero, List.set_cons_succ]
    refine wpAnyH_take (i := 18) (v := undef) rfl (by kernel_rfl) (by kernel_rfl) (by kernel_rfl) (fun _ _ _ h => h) (Or.inr ⟨by kernel_rfl, rfl⟩) (by assumption) ?_
    try simp only [List.getElem_toArray, List.getElem_cons_succ, List.getElem_cons_zero, Act.put, List.setIfInBounds_toArray, List.set_cons_zero, List.set_cons_succ]
    refine wpAnyH_take (i := 19) (v := undef) rfl (by kernel_rfl) (by kernel_rfl) (by kernel_rfl) (fun _ _ _ h => h) (Or.inr ⟨by kernel_rfl, rfl⟩) (by assumption) ?_
    try simp only [List.getElem_toArray, List.getElem_cons_succ, List.getElem_cons_zero, Act.put, List.setIfInBounds_toArray, List.set_cons_zero, List.set_cons_succ]
    refine wpAnyH_take (i := 20) (v := undef) rfl (by kernel_rfl) (by kernel_rfl) (by kernel_rfl) (fun _ _ _ h => h) (Or.inr ⟨by kernel_rfl, rfl⟩) (by assumption) ?_
    try simp only [List.getElem_toArray, List.getElem_cons_succ, List.getElem_cons_zero, Act.put, List.setIfInBounds_toArray, List.set_cons_zero, List.set_cons_succ]
    refine wpAnyH_take (i := 21) (v := undef) rfl (by kernel_rfl) (by kernel_rfl) (by kernel_rfl) (fun _ _ _ h => h) (Or.inr ⟨by kernel_rfl, rfl⟩) (by assumption) ?_
    try simp only [List.getElem_toArray, List.getElem_cons_succ, List.getElem_cons_zero, Act.put, List.setIfInBounds_toArray, List.set_cons_zero, List.set_cons_succ]
    refine wpAnyH_take (i := 22) (v := undef) rfl (by kernel_rfl) (by kernel_rfl) (by kernel_rfl) (fun _ _ _ h => h) (Or.inr ⟨by kernel_rfl, rfl⟩) (by assumption) ?_
    try simp only [List.getElem_toArray, List.getElem_cons_succ, List.getElem_cons_zero, Act.put, List.setIfInBounds_toArray, List.set_cons_zero, List.set_cons_succ]
    refine wpAnyH_take (i := 23) (v := .bool false) rfl (by kernel_rfl) (by kernel_rfl) (by kernel_rfl) (fun _ _ _ h => h) (Or.inl ⟨by rfl, by intro wx hx; go_simp⟩) (by assumption) ?_
    try simp only [List.getElem_toArray, List.getElem_cons_succ, List.getElem_cons_zero, Act.put, List.setIfInBounds_toArray, List.set_cons_zero, List.set_cons_succ]
    refine wpAnyH_take (i := 24) (v := .bool false) rfl (by kernel_rfl) (by kernel_rfl) (by kernel_rfl) (fun _ _ _ h => h) (Or.inl ⟨by rfl, by intro wx hx; go_simp⟩) (by assumption) ?_
    try simp only [List.getElem_toArray, List.getElem_cons_succ, List.getElem_cons_zero, Act.put, List.setIfInBounds_toArray, List.set_cons_zero, List.set_cons_succ]
    refine wpAnyH_done (by kernel_rfl) ?_ _
    go_wp2_with fail
    go_ret
    exact ⟨by rw [hval.out, decide_eq_false hlt, Bool.false_and]; rfl, Ext.trans eW ed⟩
theorem TabBX.put {w : World} {B g n m k : Nat} {v : Value} {M : List (List Bool)} {xs : List Bool} {R : List Row} (h : TabBX w B v M (.slice (some ⟨g, 0, none⟩) n m) xs R) (hn : n = xs.length) (b : Bool) : TabBX (w.setCell ⟨g, k, none⟩ (.bool b)) B v M (.slice (some ⟨g, 0, none⟩) n m) (xs.set k b) R := by
  obtain ⟨vs, h1, h2⟩ := h
  subst hn
  have h3 := Own.set h2 k (.bool b)
  rw [← List.map_set] at h3
  refine ⟨vs, h1, ?_⟩
  unfold browOf at *
  rw [List.length_set]
  exact h3
theorem TabBX.nth {w : World} {B g n m k : Nat} {v : Value} {M : List (List Bool)} {xs : List Bool} {R : List Row} (h : TabBX w B v M (.slice (some ⟨g, 0, none⟩) n m) xs R) (hn : n = xs.length) (hk : k < xs.length) : w.cell? ⟨g, k, none⟩ = some (.bool (nthB xs k)) ∧ w.frozen? ⟨g, k, none⟩ = false ∧ B ≤ g := by
  obtain ⟨vs, h1, h2⟩ := h
  obtain ⟨a1, a2⟩ := h2.bnth hn hk
  subst hn
  exact ⟨a1, a2, (Own.lt h2).1⟩
theorem nthB_put {L : List Bool} {i j : Nat} {b : Bool} (h : i < L.length) : nthB (L.set i b) j = if j = i then b else nthB L j := by
  unfold nthB
  rw [List.getD_eq_getElem?_getD, List.getElem?_set, List.getD_eq_getElem?_getD]
  by_cases e : i = j
  · subst e
    simp [h]
  · rw [if_neg e, if_neg (fun q => e q.symm)]
theorem bools_eq {xs : List Bool} {n : Nat} {f : Nat → Bool} (hl : xs.length = n) (h : ∀ j, j < n → nthB xs j = f j) : xs = (List.range n).map f := by
  apply List.ext_getElem
  · simp [hl]
  · intro i h1 h2
    have := h i (by omega)
    simp [nthB, h1] at this
    simp [this]
/-- the grid as a list -/
def grdL (k : Nat) (c : Nat → Nat → Int) (p r : Nat → Int) (L : List Int) (n : Nat) (t : Nat) : List (List Bool) := (List.range t).map fun l => (List.range n).map fun i => grdB k c p r L l i
theorem grdL_succ {k : Nat} {c : Nat → Nat → Int} {p r : Nat → Int} {L : List Int} {n t : Nat} : grdL k c p r L n (t + 1) = grdL k c p r L n t ++ [(List.range n).map fun i => grdB k c p r L t i] := by
  unfold grdL
  rw [List.range_succ, List.map_append]
  rfl
theorem grdL_at {k : Nat} {c : Nat → Nat → Int} {p r : Nat → Int} {L : List Int} {n t l i : Nat} (hl : l < t) (hi : i < n) : grf (grdL k c p r L n t) l i = grdB k c p r L l i := by
  show nthB (rowB (grdL k c p r L n t) l) i = _
  have e : rowB (grdL k c p r L n t) l = (List.range n).map fun i => grdB k c p r L l i := by simp [rowB, grdL, hl]
  rw [e, nthB_range hi]
theorem grdL_row {k : Nat} {c : Nat → Nat → Int} {p r : Nat → Int} {L : List Int} {n t l : Nat} (hl : l < t) : (rowB (grdL k c p r L n t) l).length = n := by simp [rowB, grdL, hl]
theorem grdB_lt {k : Nat} {c : Nat → Nat → Int} {p r : Nat → Int} {L : List Int} {l i : Nat} (h : i < L.length) : grdB k c p r L l i = (nth L i == (l : Int)) := if_pos h
theorem grdB_ge {k : Nat} {c : Nat → Nat → Int} {p r : Nat → Int} {L : List Int} {l i : Nat} (h : ¬ i < L.length) : grdB k c p r L l i = (!(hasB L (l : Int)) && tgtB k c p r l i) := by
  unfold grdB
  rw [if_neg h]
  unfold tgtB hasB
  congr 2
  rw [Bool.eq_iff_iff, List.contains_iff_mem, decide_eq_true_iff]
set_option maxHeartbeats 3200000 in
set_option maxRecDepth 100000 in
theorem l7Grid_any {v va vX vp vr vb : Value} {M : List (List Int)} {a X L : List Int} {p r : Nat → Int} {w0 w : World} [Ext w0 w] (hm : IsMet w0 v M) (ha : IsInts w0 va a) (hXi : IsInts w0 vX X) (hp : IsInts w0 vp ((List.range X.length).map p)) (hr : IsInts w0 vr ((List.range (a.length + X.length)).map r)) (hb : IsInts w0 vb L) (hs : srvB M a X = true)
    (hpb : ∀ i, i < X.length → 0 ≤ p i ∧ p i ≤ 99999) (hrb : ∀ l, l < a.length + X.length → 0 ≤ r l ∧ r l ≤ 99999) :
    Calls Tryz.prog 53 #[v, va, vX, vp, vr, vb] w fun e w' => ∃ u, e = .returned u ∧ IsGrid w' u (grdL a.length (flC M a X) p r L X.length (a.length + X.length)) ∧ Ext w w' := by
  obtain ⟨_, hal, _, _, hXl⟩ := srv_pts hs
  have hTi := hid (fun (u : World) (e : Ext w0 u) (l i : Nat) (hi : i < X.length) (hl : l < a.length + X.length) => @l7Tight_any v va vX vp vr M a X p r l i w0 u e hm ha hXi hp hr hs hpb hrb hi hl)
  have hHa := hid (fun (u : World) (e : Ext w0 u) (x : Int) => @l1Has_any vb L x w0 u e hb)
  obtain ⟨v1, rfl, hR⟩ := hm
  obtain ⟨a1, c1, rfl, l1⟩ := hR.form
  obtain ⟨da, ma, rfl, la⟩ := ha.form
  obtain ⟨dx, mx, rfl, lx⟩ := hXi.form
  obtain ⟨dp, mp, rfl, lp⟩ := hp.form
  obtain ⟨dr, mr, rfl, lr⟩ := hr.form
  obtain ⟨db, mb, rfl, lb⟩ := hb.form
  rw [List.length_map, List.length_range] at hTi ⊢
  rw [List.length_map, List.length_range] at hTi ⊢
  obtain ⟨m, hmm⟩ : ∃ m, m = a.length + X.length := ⟨_, rfl⟩
  have hmb : m ≤ 1000 := by omega
  rw [← hmm] at hTi ⊢
  obtain ⟨k, hk⟩ : ∃ k, k = a.length := ⟨_, rfl⟩
  obtain ⟨c, hc⟩ : ∃ c, c = flC M a X := ⟨_, rfl⟩
  rw [← hc] at hTi ⊢
  rw [← hk] at hTi ⊢
  replace hmm := hid hmm
  replace hk := hid hk
  replace hc := hid hc
  clear hp hr lp lr hpb hrb hs hal ha la l1
  obtain ⟨W, hW⟩ : ∃ W, W = w.alloc (.cells #[.slice a1 M.length c1] 26) := ⟨_, rfl⟩
  have eW : Ext w W := by rw [hW]; infer_instance
  have x0 : W.cell? ⟨w.heap.size, 0, none⟩ = some (.slice a1 M.length c1) := by rw [hW]; go_simp
  go_enter Tryz.func53, Tryz.ntmps53
  go_upto_region 1 with fail
  rw [← hW]
  replace hW := hid hW
  obtain ⟨bx, hbx⟩ : ∃ b, b = w.heap.size := ⟨_, rfl⟩
  rw [← hbx] at x0 ⊢
  replace hbx := hid hbx
  have e0W : Ext w0 W := Ext.trans ‹Ext w0 w› eW
  obtain ⟨B, hB⟩ : ∃ B, B = W.heap.size := ⟨_, rfl⟩
  have tab0 : TabB (W.alloc (.cells #[] 74)) B (.slice (some ⟨W.heap.size, 0, none⟩) 0 0) (grdL k c p r L X.length 0) [] := TabB.start (Own.nil W B) (by omega)
  have b0 : Below B W (W.alloc (.cells #[] 74)) := (Below.refl B W).alloc (by omega) _
  have hE := hid (show ∀ u, Below B W u → Ext W u from fun u h => ⟨by rw [← hB]; exact h⟩)
  have hBl : B ≤ (W.alloc (.cells #[] 74)).heap.size := by rw [hB]; simp
  go_upto_region 3 with fail
  replace hB := hid hB
  generalize W.alloc (.cells #[] 74) = w1 at *
  generalize W.heap.size = gt at *
  go_loopw [13, 14] (fun ov iv wr => ∃ (l : Nat) (u : Value), u = ov ∧ iv = .int .i64 l ∧ l ≤ m ∧ TabB wr B u (grdL k c p r L X.length l) [] ∧ Below B W wr ∧ B ≤ wr.heap.size) (fun _ iv _ => m - (intOf iv).toNat)
  case atStart => exact ⟨0, _, rfl, rfl, by omega, tab0, b0, hBl⟩
  case round =>
    clear tab0 b0 hBl
    obtain ⟨l, u, hu, rfl, hl, tab, hb1, hBw⟩ := hrel
    subst hu
    obtain ⟨wo, rfl⟩ : ∃ y : World, y = wr := ⟨_, rfl⟩
    by_cases hll : l < m
    · obtain ⟨vs, hvs, own⟩ := tab
      go_upto_region 7 with (at_make; refine wpList_makeA rfl _ _ _ rfl elemBool X.length rfl rfl (by omega) (by omega) rfl own hBw ?_; intro gr w3 own3 e3 b3)
      have tabX0 : TabBX w3 B u (grdL k c p r L X.length l) (.slice (some ⟨gr, 0, none⟩) X.length X.length) ((List.range X.length).map fun _ => false) [] := ⟨vs, hvs, by rw [← bA_row]; exact own3⟩
      have hb3 := hb1.trans b3
      have hBw3 : B ≤ w3.heap.size := Nat.le_trans hBw b3.size
      clear own own3 e3 b3 hb1 hBw
      go_loopw [16] (fun iv wr => ∃ (i : Nat) (xs : List Bool), iv = .int .i64 i ∧ i ≤ X.length ∧ xs.length = X.length ∧ Hid (∀ j, j < i → nthB xs j = grdB k c p r L l j) ∧ TabBX wr B u (grdL k c p r L X.length l) (.slice (some ⟨gr, 0, none⟩) X.length X.length) xs [] ∧ Below B W wr ∧ B ≤ wr.heap.size) (fun iv _ => X.length - (intOf iv).toNat)
      case atStart => exact ⟨0, _, rfl, by omega, by simp, hid (fun j hj => by omega), tabX0, hb3, hBw3⟩
      case round =>
        clear tabX0 hb3 hBw3
        obtain ⟨i, xs, rfl, hi, hxl, hxs, tabX, hb3, hBw3⟩ := hrel
        obtain ⟨wp, rfl⟩ : ∃ y : World, y = wr := ⟨_, rfl⟩
        have ep : Ext W wp := hE.out _ hb3
        have ep0 : Ext w0 wp := Ext.trans e0W ep
        replace hxl := hid hxl
        by_cases hil : i < X.length
        · obtain ⟨q1, q2, q3⟩ := tabX.nth hxl.out.symm (k := i) (by rw [hxl.out]; exact hil)
          by_cases hiL : i < L.length
          · obtain ⟨b4, o4, hd4, hc4⟩ := hb.at (w' := wp) (k := i) hiL
            cases hd4
            have hgv := hid (grdB_lt (k := k) (c := c) (p := p) (r := r) (l := l) hiL)
            obtain ⟨y, hy⟩ : ∃ y, y = nth L i := ⟨_, rfl⟩
            rw [← hy] at hc4 hgv
            replace hy := hid hy
            have tabY := tabX.put (k := i) hxl.out.symm (y == (l : Int))
            have hb5 := hb3.setCell (p := ⟨gr, i, none⟩) q3 (.bool (y == (l : Int)))
            have hs5 : (wp.setCell ⟨gr, i, none⟩ (.bool (y == (l : Int)))).heap.size = wp.heap.size := by go_simp
            replace hs5 := hid hs5
            go_wp2_with fail
            go_roundw
            case rel => exact ⟨i + 1, xs.set i (y == (l : Int)), by go_num, by omega, by rw [List.length_set]; exact hxl.out, hid (fun j hj => by
              rw [nthB_put (by rw [hxl.out]; exact hil)]
              split
              · rename_i e; subst e; exact hgv.out.symm
              · exact hxs.out j (by omega)), tabY, hb5, by rw [hs5.out]; exact hBw3⟩
            case measure => simp [intOf]; omega
          · have hgv := grdB_ge (k := k) (c := c) (p := p) (r := r) (l := l) hiL
            have hx1 := ep.cell x0
            have hH1 := hid (hHa.out wp ep0 (l : Int))
            cases hh : hasB L (l : Int) with
            | true =>
              rw [hh, Bool.not_true, Bool.false_and] at hgv
              rw [hh] at hH1
              have hgv := hid hgv
              have hh := hid hh
              have tabY := tabX.put (k := i) hxl.out.symm false
              have hb5 := hb3.setCell (p := ⟨gr, i, none⟩) q3 (.bool false)
              have hs5 : (wp.setCell ⟨gr, i, none⟩ (.bool false)).heap.size = wp.heap.size := by go_simp
              replace hs5 := hid hs5
              go_wp2_with fail
              refine hH1.out.mono ?_
              rintro e w4 ⟨rfl, rfl⟩
              go_wp2_with fail
              go_roundw
              case rel => exact ⟨i + 1, xs.set i false, by go_num, by omega, by rw [List.length_set]; exact hxl.out, hid (fun j hj => by
                rw [nthB_put (by rw [hxl.out]; exact hil)]
                split
                · rename_i e; subst e; exact hgv.out.symm
                · exact hxs.out j (by omega)), tabY, hb5, by rw [hs5.out]; exact hBw3⟩
              case measure => simp [intOf]; omega
            | false =>
              rw [hh, Bool.not_false, Bool.true_and] at hgv
              rw [hh] at hH1
              have hT1 := hid (hTi.out wp ep0 l i hil hll)
              obtain ⟨T, hT⟩ : ∃ T, T = tgtB k c p r l i := ⟨_, rfl⟩
              rw [← hT] at hT1 hgv
              have hgv := hid hgv
              have hh := hid hh
              replace hT := hid hT
              go_wp2_with fail
              refine hH1.out.mono ?_
              rintro e w4 ⟨rfl, rfl⟩
              go_wp2_with fail
              refine hT1.out.mono ?_
              rintro e w4 ⟨rfl, e4⟩
              have tab4 := tabX.ext (w' := w4)
              obtain ⟨z1, z2, z3⟩ := tab4.nth hxl.out.symm (k := i) (by rw [hxl.out]; exact hil)
              clear q1 q2
              have hb4 : Below B W w4 := hb3.trans (e4.below.mono hBw3)
              have hBw4 : B ≤ w4.heap.size := Nat.le_trans hBw3 e4.below.size
              have tabY := tab4.put (k := i) hxl.out.symm T
              have hb5 := hb4.setCell (p := ⟨gr, i, none⟩) q3 (.bool T)
              have hs5 : (w4.setCell ⟨gr, i, none⟩ (.bool T)).heap.size = w4.heap.size := by go_simp
              replace hs5 := hid hs5
              go_wp2_with fail
              go_roundw
              case rel => exact ⟨i + 1, xs.set i T, by go_num, by omega, by rw [List.length_set]; exact hxl.out, hid (fun j hj => by
                rw [nthB_put (by rw [hxl.out]; exact hil)]
                split
                · rename_i e; subst e; exact hgv.out.symm
                · exact hxs.out j (by omega)), tabY, hb5, by rw [hs5.out]; exact hBw4⟩
              case measure => simp [intOf]; omega
        · obtain rfl : i = X.length := by omega
          obtain rfl := bools_eq hxl.out hxs.out
          have hxt : (grdL k c p r L X.length l).length ≤ 1000000 := by simp [grdL]; omega
          go_wp2_with (at_builtin; refine wpList_pushB rfl (.tmp 63) (.tmp 65) rfl rfl tabX hBw3 rfl hxt ?_; intro v4 w4 tab4 b4)
          rw [← grdL_succ] at tab4
          go_roundw
          case rel => exact ⟨l + 1, v4, rfl, by go_num, by omega, tab4, hb3.trans b4, Nat.le_trans hBw3 b4.size⟩
          case measure => simp [intOf]; omega
    · obtain rfl : l = m := by omega
      have hI : IsGrid wo u (grdL k c p r L X.length l) := tab.reads (by simp [grdL]; unfold ShortRows; omega) (fun q hq => by
        obtain ⟨j, hj, rfl⟩ := List.mem_map.1 hq
        simp
        unfold Short; omega)
      have hF : Ext w wo := Ext.trans eW (hE.out _ hb1)
      go_wp2_with fail
      go_ret
      exact ⟨u, rfl, hI, hF⟩
end Go.Proofs.YtllfchcocgdcjaaGreat
