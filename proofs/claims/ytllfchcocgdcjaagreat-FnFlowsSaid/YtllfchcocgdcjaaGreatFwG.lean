/- The reference's question walked: l7Goes. -/
import Derived.Test.YtllfchcocgdcjaaGreatFwE
namespace Go.Proofs.YtllfchcocgdcjaaGreat
open Go.RowKit

theorem Cov.congr {G G' : Nat → Nat → Bool} {R C : Nat} {X X' : Nat → Bool} (h : ∀ r c, r < R → c < C → G r c = G' r c) (hx : ∀ r, r < R → X r = X' r) : Cov G R C X ↔ Cov G' R C X' := by
  have one : ∀ {G G' : Nat → Nat → Bool} {X X' : Nat → Bool}, (∀ r c, r < R → c < C → G r c = G' r c) → (∀ r, r < R → X r = X' r) → Cov G R C X → Cov G' R C X' := by
    rintro G G' X X' h hx ⟨g, g1, g2⟩
    refine ⟨g, fun x hr hX => ?_, fun x y hr hr' hX hY e => g2 x y hr hr' (by rw [hx x hr]; exact hX) (by rw [hx y hr']; exact hY) e⟩
    have := g1 x hr (by rw [hx x hr]; exact hX)
    exact ⟨this.1, by rw [← h x _ hr this.1]; exact this.2⟩
  exact ⟨one h hx, one (fun r c hr hc => (h r c hr hc).symm) (fun r hr => (hx r hr).symm)⟩
/-- what the question tells -/
def goesQ (k : Nat) (c : Nat → Nat → Int) (p r : Nat → Int) (L : List Int) (n m : Nat) : Prop :=
  Cov (fun i x => grdB k c p r L x i) n m (fun _ => true) ∧ Cov (grdB k c p r L) m n (fun x => decide (0 < r x))
set_option maxHeartbeats 3200000 in
set_option maxRecDepth 100000 in
theorem l7Goes_any {v va vX vp vr vb : Value} {M : List (List Int)} {a X L : List Int} {p r : Nat → Int} {w0 w : World} [Ext w0 w] (hm : IsMet w0 v M) (ha : IsInts w0 va a) (hXi : IsInts w0 vX X) (hp : IsInts w0 vp ((List.range X.length).map p)) (hr : IsInts w0 vr ((List.range (a.length + X.length)).map r)) (hb : IsInts w0 vb L) (hs : srvB M a X = true)
    (hpb : ∀ i, i < X.length → 0 ≤ p i ∧ p i ≤ 99999) (hrb : ∀ l, l < a.length + X.length → 0 ≤ r l ∧ r l ≤ 99999) (hX1 : 1 ≤ X.length) :
    Calls Tryz.prog 31 #[v, va, vX, vp, vr, vb] w fun e w' => ∃ b : Bool, e = .returned (.bool b) ∧ (b = true ↔ goesQ a.length (flC M a X) p r L X.length (a.length + X.length)) ∧ Ext w w' := by
  obtain ⟨_, hal, _, _, hXl⟩ := srv_pts hs
  have hGd := hid (fun (u : World) (e : Ext w0 u) => @l7Grid_any v va vX vp vr vb M a X L p r w0 u e hm ha hXi hp hr hb hs hpb hrb)
  obtain ⟨v1, rfl, hR⟩ := hm
  obtain ⟨a1, c1, rfl, l1⟩ := hR.form
  obtain ⟨da, ma, rfl, la⟩ := ha.form
  obtain ⟨dx, mx, rfl, lx⟩ := hXi.form
  obtain ⟨dp, mp, rfl, lp⟩ := hp.form
  obtain ⟨dr, mr, rfl, lr⟩ := hr.form
  obtain ⟨db, mb, rfl, lb⟩ := hb.form
  rw [List.length_map, List.length_range] at hGd ⊢
  rw [List.length_map, List.length_range] at hGd ⊢
  obtain ⟨m, hmm⟩ : ∃ m, m = a.length + X.length := ⟨_, rfl⟩
  have hmb : m ≤ 1000 := by omega
  have hm1 : 1 ≤ m := by omega
  rw [← hmm] at hGd hr ⊢
  obtain ⟨k, hk⟩ : ∃ k, k = a.length := ⟨_, rfl⟩
  obtain ⟨c, hc⟩ : ∃ c, c = flC M a X := ⟨_, rfl⟩
  rw [← hc] at hGd ⊢
  rw [← hk] at hGd ⊢
  obtain ⟨Gd, hGdd⟩ : ∃ Gd, Gd = grdL k c p r L X.length m := ⟨_, rfl⟩
  rw [← hGdd] at hGd
  have hG1 : Gd.length = m := by rw [hGdd]; simp [grdL]
  have hG2 : ∀ l, l < m → (rowB Gd l).length = X.length := fun l hl => by rw [hGdd]; exact grdL_row hl
  have hG3 : ∀ l i, l < m → i < X.length → grf Gd l i = grdB k c p r L l i := fun l i hl hi => by rw [hGdd]; exact grdL_at hl hi
  replace hGdd := hid hGdd
  replace hmm := hid hmm
  replace hk := hid hk
  replace hc := hid hc
  replace hG1 := hid hG1
  replace hG2 := hid hG2
  replace hG3 := hid hG3
  clear hp lp lr hpb hrb hs hal ha la l1 hb lb
  obtain ⟨W, hW⟩ : ∃ W, W = w.alloc (.cells #[.slice a1 M.length c1] 26) := ⟨_, rfl⟩
  have eW : Ext w W := by rw [hW]; infer_instance
  have x0 : W.cell? ⟨w.heap.size, 0, none⟩ = some (.slice a1 M.length c1) := by rw [hW]; go_simp
  go_enter Tryz.func31, Tryz.ntmps31
  go_upto_region 1 with fail
  rw [← hW]
  replace hW := hid hW
  obtain ⟨bx, hbx⟩ : ∃ b, b = w.heap.size := ⟨_, rfl⟩
  rw [← hbx] at x0 ⊢
  replace hbx := hid hbx
  have e0W : Ext w0 W := Ext.trans ‹Ext w0 w› eW
  have hGW := hid (hGd.out W e0W)
  go_wp2_with fail
  refine hGW.out.mono ?_
  rintro e w2 ⟨u, rfl, hGI, e2⟩
  obtain ⟨dg, mg, rfl, lg⟩ := hGI.form
  rw [hG1.out]
  rw [hG1.out] at hGI
  replace lg := hid lg
  have e02 : Ext w0 w2 := Ext.trans e0W e2
  obtain ⟨B, hB⟩ : ∃ B, B = w2.heap.size := ⟨_, rfl⟩
  have own0 : Own (w2.alloc (.cells #[] 4)) B [browOf 4 (.slice (some ⟨w2.heap.size, 0, none⟩) 0 0) ((List.range 0).map fun l => decide (0 < r l))] := by
    rw [hB]
    exact (Own.nil w2 w2.heap.size).lit 4 1 0 #[] (Nat.le_refl _) (by unfold maxLen; omega) rfl
  have b0 : Below B w2 (w2.alloc (.cells #[] 4)) := (Below.refl B w2).alloc (by omega) _
  have hE := hid (show ∀ u, Below B w2 u → Ext w2 u from fun u h => ⟨by rw [← hB]; exact h⟩)
  have hBl : B ≤ (w2.alloc (.cells #[] 4)).heap.size := by rw [hB]; simp
  go_upto_region 4 with fail
  replace hB := hid hB
  generalize w2.alloc (.cells #[] 4) = w3 at *
  generalize w2.heap.size = gt at *
  go_loopw [14, 15] (fun ov iv wr => ∃ (l : Nat) (d : Option Addr) (q : Nat), ov = .slice d l q ∧ iv = .int .i64 l ∧ l ≤ m ∧ Own wr B [browOf 4 (.slice d l q) ((List.range l).map fun l => decide (0 < r l))] ∧ Below B w2 wr ∧ B ≤ wr.heap.size) (fun _ iv _ => m - (intOf iv).toNat)
  case atStart => exact ⟨0, _, _, rfl, rfl, by omega, own0, b0, hBl⟩
  case round =>
    clear own0 b0 hBl
    obtain ⟨l, d, q, rfl, rfl, hl, own, hb1, hBw⟩ := hrel
    obtain ⟨wo, rfl⟩ : ∃ y : World, y = wr := ⟨_, rfl⟩
    have eo : Ext w2 wo := hE.out _ hb1
    have eo0 : Ext w0 wo := Ext.trans e02 eo
    by_cases hll : l < m
    · obtain ⟨b4, o4, hd4, hc4⟩ := hr.at (w' := wo) (k := l) (by simpa using hll)
      cases hd4
      rw [nth_range hll] at hc4
      have own1 : Own wo B [⟨4, 1, .slice d l q, l, ((List.range l).map fun l => decide (0 < r l)).map Value.bool⟩] := by
        have h := own
        unfold browOf at h
        rw [List.length_map, List.length_range] at h
        exact h
      have hnx : ((List.range l).map fun l => decide (0 < r l)) ++ [decide (0 < r l)] = (List.range (l + 1)).map fun l => decide (0 < r l) := by
        rw [List.range_succ, List.map_append]; rfl
      obtain ⟨y, hy⟩ : ∃ y, y = r l := ⟨_, rfl⟩
      rw [← hy] at hc4 hnx
      replace hy := hid hy
      replace hnx := hid hnx
      go_wp2_with (at_builtin; refine wpList_append1 rfl (.tmp 30) (.tmp 36) _ rfl elemBool rfl own1 hBw rfl rfl (by omega) (by omega) ?_; intro v1 w1 ho1 hb2; obtain ⟨d1, m1, hv1⟩ := ho1.form; (obtain rfl : v1 = .slice d1 (l + 1) m1 := hv1))
      have o2 : Own w1 B [browOf 4 (.slice d1 (l + 1) m1) ((List.range (l + 1)).map fun l => decide (0 < r l))] := by
        rw [← hnx.out]
        unfold browOf
        rw [List.length_append, List.length_map, List.length_range, List.map_append]
        exact ho1
      go_roundw
      case rel => exact ⟨l + 1, d1, m1, rfl, by go_num, by omega, o2, hb1.trans hb2, Nat.le_trans hBw hb2.size⟩
      case measure => simp [intOf]; omega
    · obtain rfl : l = m := by omega
      have hBo : IsBools wo (.slice d l q) ((List.range l).map fun l => decide (0 < r l)) := own.readsB (by simp; unfold Short; omega)
      have hT1 := hid (@l7Turned_any Gd X.length (.slice dg l mg) w2 wo eo hGI (by rw [hG1.out]; exact hG2.out) (by omega) (by rw [hG1.out]; exact hmb) (by rw [hG1.out]; exact hm1))
      go_wp2_with fail
      refine hT1.out.mono ?_
      rintro e w4 ⟨u4, rfl, hTG, e4⟩
      obtain ⟨d4, m4, rfl, l4⟩ := hTG.form
      replace l4 := hid l4
      have hA1 := hid (l7All_any X.length (by omega) w4)
      go_wp2_with fail
      refine hA1.out.mono ?_
      rintro e w5 ⟨d5, m5, rfl, hA5, e5⟩
      have hlt : (trnT Gd X.length).length = X.length := by simp [trnT]
      have hC1 := hid (@l7Covers_any (trnT Gd X.length) ((List.range X.length).map fun _ => true) l _ (.slice d5 X.length m5) w5 w5 (Ext.refl _) (hTG.ext) hA5 (by simp [hlt]) (fun r' hr' => by rw [row_trn (by omega), hG1.out]) hmb (by omega) (by omega))
      rw [hlt] at hC1
      have q1 : Cov (grf (trnT Gd X.length)) X.length l (nthB ((List.range X.length).map fun _ => true)) ↔ Cov (fun i x => grdB k c p r L x i) X.length l (fun _ => true) :=
        Cov.congr (fun r' c' h1 h2 => by rw [grf_trn h1 (by rw [hG1.out]; exact h2)]; exact hG3.out _ _ h2 h1) (fun r' h1 => nthB_range h1)
      replace q1 := hid q1
      replace hlt := hid hlt
      rw [hlt.out]
      go_wp2_with fail
      refine hC1.out.mono ?_
      rintro e w6 ⟨b6, rfl, hb6, e6⟩
      have eA : Ext w2 w6 := Ext.trans (Ext.trans (Ext.trans eo e4) e5) e6
      replace hb6 := hid (hb6.trans q1.out)
      cases b6 with
      | false =>
        go_wp2_with fail
        go_ret
        refine ⟨false, rfl, ⟨(by intro h; cases h), fun h => ?_⟩, Ext.trans (Ext.trans eW e2) eA⟩
        have := hb6.out.2 h.1
        cases this
      | true =>
        have hC2 := hid (@l7Covers_any Gd ((List.range l).map fun l => decide (0 < r l)) X.length (.slice dg l mg) (.slice d l q) w6 w6 (Ext.refl _) (@IsGrid.ext _ _ _ _ hGI eA) (@IsBools.ext _ _ _ _ hBo (Ext.trans (Ext.trans e4 e5) e6)) (by simp [hG1.out]) (by rw [hG1.out]; exact hG2.out) (by omega) (by rw [hG1.out]; exact hmb) (by rw [hG1.out]; exact hm1))
        rw [hG1.out] at hC2
        have q2 : Cov (grf Gd) l X.length (nthB ((List.range l).map fun l => decide (0 < r l))) ↔ Cov (grdB k c p r L) l X.length (fun x => decide (0 < r x)) :=
          Cov.congr (fun r' c' h1 h2 => hG3.out _ _ h1 h2) (fun r' h1 => nthB_range h1)
        replace q2 := hid q2
        go_wp2_with fail
        refine hC2.out.mono ?_
        rintro e w7 ⟨b7, rfl, hb7, e7⟩
        replace hb7 := hid (hb7.trans q2.out)
        go_wp2_with fail
        go_ret
        exact ⟨b7, rfl, ⟨fun h => ⟨hb6.out.1 (by simp), hb7.out.1 h⟩, fun h => hb7.out.2 h.2⟩, Ext.trans (Ext.trans eW e2) (Ext.trans eA e7)⟩
end Go.Proofs.YtllfchcocgdcjaaGreat
