/- Distances of one's own, of a star; the least ones along paths. -/
import Derived.Test.YtnlbjbnjjkilhaaMtA
import Derived.Test.YtnlbjbnjjkilhaaPackA
import Derived.Test.YtnlbjbnjjkilhaaSwp
namespace Go.Proofs.Ytnlbjbnjjkilhaa
open Go.RowKit

set_option maxHeartbeats 3200000 in
set_option maxRecDepth 100000 in
theorem l6Own_any {v : Value} {M : List (List Int)} {w0 w : World} [Ext w0 w] (hm : IsMet w0 v M) (hl : M.length ≤ 1000) :
    Calls Try.prog 48 #[v] w fun e w' => ∃ d0 m0 vs, e = .returned (.agg #[.slice d0 M.length m0]) ∧ vs.length = M.length ∧
      Own w' w.heap.size (rowsOf 24 3 (.slice d0 M.length m0) vs M) ∧ Ext w w' := by
  obtain ⟨v1, rfl, hR⟩ := hm
  obtain ⟨a1, c1, rfl, l1⟩ := hR.form
  go_enter Try.func48, Try.ntmps48
  go_upto_region 2 with fail
  generalize hW : (((w.alloc (.cells #[.slice a1 M.length c1] 29)).alloc (.cells #[.slice none 0 0] 29)).alloc (.cells #[] 24)).alloc (.cells #[.slice (some ⟨w.heap.size + 1 + 1, 0, none⟩) 0 0] 29) = W
  have eW : Ext w W := hW ▸ inferInstance
  have x0 : W.cell? ⟨w.heap.size + 1, 0, none⟩ = some (.slice none 0 0) := by subst hW; go_simp
  have xf : W.frozen? ⟨w.heap.size + 1, 0, none⟩ = false := by subst hW; go_simp
  have q0 : W.cell? ⟨w.heap.size, 0, none⟩ = some (.slice a1 M.length c1) := by subst hW; go_simp
  obtain ⟨b, hb⟩ : ∃ b, b = w.heap.size + 1 + 1 + 1 := ⟨_, rfl⟩
  rw [← hb]
  have own0 : Own W (w.heap.size + 1 + 1) (boxRow 29 1 b [.slice (some ⟨w.heap.size + 1 + 1, 0, none⟩) 0 0] :: (rowsOf 24 3 (.slice (some ⟨w.heap.size + 1 + 1, 0, none⟩) 0 0) [] [] ++ [])) := by
    subst hW
    have h := (Own.nil ((w.alloc (.cells #[.slice a1 M.length c1] 29)).alloc (.cells #[.slice none 0 0] 29)) (w.heap.size + 1 + 1)).lit 24 1 0 #[] (by simp) (by unfold maxLen; omega) rfl
    rw [show ((w.alloc (.cells #[.slice a1 M.length c1] 29)).alloc (.cells #[.slice none 0 0] 29)).heap.size = w.heap.size + 1 + 1 by simp] at h
    have h2 := h.lit 29 1 1 #[.slice (some ⟨w.heap.size + 1 + 1, 0, none⟩) 0 0] (by simp) (by unfold maxLen; omega) rfl
    rw [show (((w.alloc (.cells #[.slice a1 M.length c1] 29)).alloc (.cells #[.slice none 0 0] 29)).alloc (.cells #[] 24)).heap.size = b by simp; omega] at h2
    exact h2
  have hBW : w.heap.size + 1 + 1 ≤ W.heap.size := by subst hW; simp
  clear hW
  obtain ⟨B, hB⟩ : ∃ B, B = w.heap.size + 1 + 1 := ⟨_, rfl⟩
  rw [← hB] at own0 hBW
  have hq : w.heap.size < B := by omega
  have hr : w.heap.size + 1 < B := by omega
  have hlw : w.heap.size ≤ B := by omega
  generalize hqd : w.heap.size = q at *
  replace hqd := hid hqd
  replace hB := hid hB
  replace hb := hid hb
  obtain ⟨r, hrd⟩ : ∃ r, r = q + 1 := ⟨_, rfl⟩
  rw [← hrd] at x0 xf hr ⊢
  replace hrd := hid hrd
  have hE : ∀ u, Below B W u → Ext w u := fun u h => ⟨eW.below.trans (h.mono (by rw [hqd.out]; exact hlw))⟩
  replace hE := hid hE
  go_wp2
  go_loopw [4] (fun i wr => ∃ x : Nat, x ≤ M.length ∧ i = .int .i64 x ∧ Below B W wr ∧ ∃ d0 m0 vs, Hid (vs.length = x) ∧ Own wr B (boxRow 29 1 b [.slice d0 x m0] :: (rowsOf 24 3 (.slice d0 x m0) vs (M.take x) ++ []))) (fun i _ => M.length - (intOf i).toNat)
  case atStart => exact ⟨0, by omega, rfl, Below.refl _ _, _, _, [], hid rfl, own0⟩
  case round =>
    obtain ⟨x, hx, rfl, hb0, d0, m0, vs, hvs, hown⟩ := hrel
    obtain ⟨wo, rfl⟩ : ∃ y : World, y = wr := ⟨_, rfl⟩
    have hqo : wo.cell? ⟨q, 0, none⟩ = some (.slice a1 M.length c1) := (hb0.cell (p := ⟨q, 0, none⟩) hq).trans q0
    by_cases hlt : x < M.length
    · go_upto_region 5 with fail
      have ownd := hown.ext (w' := wo.drew)
      have bd : Below B W wo.drew := hb0.drew
      clear hown hb0 hqo
      have e01 : Ext w0 wo.drew := Ext.trans ‹Ext w0 w› (hE.out _ bd)
      obtain ⟨bM, oM, dr, mr, rfl, hcr0, hir, _⟩ := hR.at (w' := w0) hlt
      have hfc := hid (show ∀ u, Below B W u → u.cell? ⟨q, 0, none⟩ = some (.slice (some ⟨bM, oM, none⟩) M.length c1) ∧ u.cell? ⟨bM, oM + x, none⟩ = some (.slice dr (row M x).length mr) from fun u hu =>
        ⟨(hu.cell (p := ⟨q, 0, none⟩) hq).trans q0, (Ext.trans ‹Ext w0 w› (hE.out _ hu)).cell hcr0⟩)
      have hrl := hid (show (row M x).length ≤ 17592186044415 from by obtain ⟨_, _, h, h2⟩ := hir.form; exact h2)
      have hts := hid (take_succ_row hlt)
      have hBd : B ≤ wo.drew.heap.size := Nat.le_trans hBW bd.size
      have h1 := rw_out (A := []) (W := boxRow 29 1 b [.slice d0 x m0]) ownd
      have tb : wo.drew.cell? ⟨b, 0, none⟩ = some (.slice d0 x m0) := ow_cell ownd (.head _) (j := 0) (by omega)
      rw [hvs.out] at h1
      have hf1 := hfc.out _ bd
      refine wp_region_E_drew (X := fun i => i == 12) (S := fun w' => w'.cell? ⟨b, 0, none⟩ = some (.slice d0 x m0) ∧ w'.cell? ⟨q, 0, none⟩ = some (.slice (some ⟨bM, oM, none⟩) M.length c1) ∧ w'.cell? ⟨bM, oM + x, none⟩ = some (.slice dr (row M x).length mr)) (by kernel_rfl) ⟨tb, hf1.1, hf1.2⟩ (fun hHeld0 => ?_)
      generalize wo.drew = w1 at *
      refine wpAnyE_take (i := 0) (v := .pointer (some ⟨b, 0, none⟩)) rfl (by kernel_rfl) (by kernel_rfl) (by kernel_rfl) (fun _ _ _ h => h) (Or.inl ⟨by rfl, by intro wx hx; go_simp⟩) (by assumption) ?_
      try simp only [List.getElem_toArray, List.getElem_cons_zero, Act.put, List.setIfInBounds_toArray, List.set_cons_zero, List.set_cons_succ]
      refine wpAnyE_take (i := 1) (v := .slice d0 x m0) rfl (by kernel_rfl) (by kernel_rfl) (by kernel_rfl) (fun _ _ _ h => h) (Or.inl ⟨by rfl, by intro wx hx; obtain ⟨_, _, _⟩ := hx; go_simp⟩) (by assumption) ?_
      try simp only [List.getElem_toArray, List.getElem_cons_succ, List.getElem_cons_zero, Act.put, List.setIfInBounds_toArray, List.set_cons_zero, List.set_cons_succ]
      refine wpAnyE_take (i := 3) (v := .pointer (some ⟨q, 0, none⟩)) rfl (by kernel_rfl) (by kernel_rfl) (by kernel_rfl) (fun _ _ _ h => h) (Or.inl ⟨by rfl, by intro wx hx; go_simp⟩) (by assumption) ?_
      try simp only [List.getElem_toArray, List.getElem_cons_succ, List.getElem_cons_zero, Act.put, List.setIfInBounds_toArray, List.set_cons_zero, List.set_cons_succ]
      refine wpAnyE_take (i := 4) (v := .slice (some ⟨bM, oM, none⟩) M.length c1) rfl (by kernel_rfl) (by kernel_rfl) (by kernel_rfl) (fun _ _ _ h => h) (Or.inl ⟨by rfl, by intro wx hx; obtain ⟨_, _, _⟩ := hx; go_simp⟩) (by assumption) ?_
      try simp only [List.getElem_toArray, List.getElem_cons_succ, List.getElem_cons_zero, Act.put, List.setIfInBounds_toArray, List.set_cons_zero, List.set_cons_succ]
      refine wpAnyE_take (i := 5) (v := .int .i64 x) rfl (by kernel_rfl) (by kernel_rfl) (by kernel_rfl) (fun _ _ _ h => h) (Or.inl ⟨by rfl, by intro wx hx; go_simp⟩) (by assumption) ?_
      try simp only [List.getElem_toArray, List.getElem_cons_succ, List.getElem_cons_zero, Act.put, List.setIfInBounds_toArray, List.set_cons_zero, List.set_cons_succ]
      refine wpAnyE_take (i := 6) (v := .pointer (some ⟨bM, oM + x, none⟩)) rfl (by kernel_rfl) (by kernel_rfl) (by kernel_rfl) (fun _ _ _ h => h) (Or.inl ⟨by rfl, by intro wx hx; go_simp⟩) (by assumption) ?_
      try simp only [List.getElem_toArray, List.getElem_cons_succ, List.getElem_cons_zero, Act.put, List.setIfInBounds_toArray, List.set_cons_zero, List.set_cons_succ]
      refine wpAnyE_take (i := 7) (v := .slice dr (row M x).length mr) rfl (by kernel_rfl) (by kernel_rfl) (by kernel_rfl) (fun _ _ _ h => h) (Or.inl ⟨by rfl, by intro wx hx; obtain ⟨_, _, _⟩ := hx; go_simp⟩) (by assumption) ?_
      try simp only [List.getElem_toArray, List.getElem_cons_succ, List.getElem_cons_zero, Act.put, List.setIfInBounds_toArray, List.set_cons_zero, List.set_cons_succ]
      refine wpAnyE_ready (rs := [2]) (by kernel_rfl) (by simp) ?_
      refine AllReadyE.cons rfl (fun K hK => ?_) AllReadyE.nil
      go_simp
      have own2 := h1.lit 3 1 0 #[] hBd (by unfold maxLen; omega) rfl
      have b2 : Below B W (w1.alloc (.cells #[] 3)) := bd.alloc hBd _
      have hs2 := And.intro (show (w1.alloc (.cells #[] 3)).cell? ⟨b, 0, none⟩ = some (.slice d0 x m0) from ow_cell own2 (.tail _ (.tail _ (.head _))) (j := 0) (by omega)) (hfc.out _ b2)
      refine hK.out _ _ (.inr hs2) (fun _ => ?_)
      clear hK K
      try simp only [List.getElem_toArray, List.getElem_cons_succ, List.getElem_cons_zero, Act.put, List.setIfInBounds_toArray, List.set_cons_zero, List.set_cons_succ]
      generalize w1.alloc (.cells #[] 3) = w2 at *
      generalize w1.heap.size = g2 at *
      have hB2 : B ≤ w2.heap.size := Nat.le_trans hBW b2.size
      have e02 : Ext w0 w2 := Ext.trans ‹Ext w0 w› (hE.out _ b2)
      refine wpAnyE_ready (rs := [8]) (by kernel_rfl) (by simp) ?_
      refine AllReadyE.cons rfl (fun K hK => ?_) AllReadyE.nil
      refine stp_ints rfl (.tmp 16) (.tmp 21) 24 rfl elemInt rfl own2 hB2 rfl (hir.ext (w' := w2)) (by have := hrl.out; omega) ?_
      intro v4 w4 ho4 hb4
      have o4 : Own w4 B (intRowOf 3 v4 (row M x) :: (⟨24, 1, .slice d0 x m0, x, vs⟩ :: (boxRow 29 1 b [.slice d0 x m0] :: ([] ++ (List.zipWith (intRowOf 3) vs (M.take x) ++ []))))) := by
        have h := own_more (xs := []) ho4 rfl
        rwa [List.nil_append] at h
      obtain ⟨d4, n4, m4, hv4, hn4⟩ := own_formN o4
      subst hv4
      have b4 := b2.trans hb4
      have hs4 := And.intro (show w4.cell? ⟨b, 0, none⟩ = some (.slice d0 x m0) from ow_cell o4 (.tail _ (.tail _ (.head _))) (j := 0) (by omega)) (hfc.out _ b4)
      refine hK.out _ _ (.inr hs4) (fun _ => ?_)
      clear hK K
      try simp only [List.getElem_toArray, List.getElem_cons_succ, List.getElem_cons_zero, Act.put, List.setIfInBounds_toArray, List.set_cons_zero, List.set_cons_succ]
      have hB4 : B ≤ w4.heap.size := Nat.le_trans hBW b4.size
      refine wpAnyE_ready (rs := [9]) (by kernel_rfl) (by simp) ?_
      refine AllReadyE.cons rfl (fun K hK => ?_) AllReadyE.nil
      go_simp
      have o6 := o4.lit 24 1 1 #[.slice d4 n4 m4] hB4 (by unfold maxLen; omega) rfl
      have b6 : Below B W (w4.alloc (.cells #[.slice d4 n4 m4] 24)) := b4.alloc hB4 _
      have hs6 := And.intro (show (w4.alloc (.cells #[.slice d4 n4 m4] 24)).cell? ⟨b, 0, none⟩ = some (.slice d0 x m0) from ow_cell o6 (.tail _ (.tail _ (.tail _ (.head _)))) (j := 0) (by omega)) (hfc.out _ b6)
      have hn6 : (w4.alloc (.cells #[.slice d4 n4 m4] 24)).cell? ⟨w4.heap.size, 0, none⟩ = some (.slice d4 n4 m4) := by go_simp
      refine hK.out _ _ (.inr hs6) (fun _ => ?_)
      clear hK K
      try simp only [List.getElem_toArray, List.getElem_cons_succ, List.getElem_cons_zero, Act.put, List.setIfInBounds_toArray, List.set_cons_zero, List.set_cons_succ]
      have o7 := o6.tail.perm (List.Perm.swap _ _ _)
      clear o6 o4 own2 ho4 h1 ownd
      generalize w4.alloc (.cells #[.slice d4 n4 m4] 24) = w6 at *
      generalize w4.heap.size = g6 at *
      have hB6 : B ≤ w6.heap.size := Nat.le_trans hBW b6.size
      refine wpAnyE_ready (rs := [10]) (by kernel_rfl) (by simp) ?_
      refine AllReadyE.cons rfl (fun K hK => ?_) AllReadyE.nil
      refine stp_one rfl (.tmp 15) (.tmp 23) 27 rfl elemInts rfl o7 hB6 (us := [.slice d4 n4 m4]) rfl rfl ?_ (by intro u hu; simp at hu; subst hu; rfl) (by omega) (by omega) ?_
      · intro jj u hj
        match jj, hj with
        | 0, hj => simp at hj; subst hj; exact hn6
      intro v8 w8 ho8 hb8
      obtain ⟨d8, m8, hv8⟩ := ho8.form
      have hv8' : v8 = .slice d8 (x + 1) m8 := hv8
      subst hv8'
      clear hv8
      have b8 := b6.trans hb8
      have hs8 := And.intro (show w8.cell? ⟨b, 0, none⟩ = some (.slice d0 x m0) from ow_cell ho8 (.tail _ (.tail _ (.head _))) (j := 0) (by omega)) (hfc.out _ b8)
      have ho8' := ho8
      rw [← hvs.out] at ho8'
      have ho9 := rw_in (A := [boxRow 29 1 b [.slice d0 vs.length m0]]) (R := []) ho8' (by rw [hvs.out, List.length_take]; omega)
      rw [hvs.out] at ho9
      have ho10 := ow_set (A := []) ho9 0 (.slice d8 (x + 1) m8)
      have hbB : B ≤ b := ((ho8.1 _ (.tail _ (.tail _ (.head _)))).lt b rfl).1
      have b10 := b8.setCell hbB (p := ⟨b, 0, none⟩) (.slice d8 (x + 1) m8)
      have hff := ow_frozen ho8 (.tail _ (.tail _ (.head _))) 0
      have hvs2 := hid (show (vs ++ [Value.slice d4 n4 m4]).length = x + 1 by rw [List.length_append, hvs.out]; rfl)
      rw [← hts.out] at ho10
      refine hK.out _ _ (.inr hs8) (fun _ => ?_)
      clear hK K
      try simp only [List.getElem_toArray, List.getElem_cons_succ, List.getElem_cons_zero, Act.put, List.setIfInBounds_toArray, List.set_cons_zero, List.set_cons_succ]
      refine wpAnyE_take (i := 11) (v := .pointer (some ⟨b, 0, none⟩)) rfl (by kernel_rfl) (by kernel_rfl) (by kernel_rfl) (fun _ _ _ h => h) (Or.inl ⟨by rfl, by intro wx hx; go_simp⟩) (by assumption) ?_
      try simp only [List.getElem_toArray, List.getElem_cons_succ, List.getElem_cons_zero, Act.put, List.setIfInBounds_toArray, List.set_cons_zero, List.set_cons_succ]
      refine wpAnyE_ready (rs := [12]) (by kernel_rfl) (by simp) ?_
      refine AllReadyE.cons rfl (fun K hK => ?_) AllReadyE.nil
      go_simp
      refine hK.out _ _ (.inl rfl) (fun _ => ?_)
      clear hK K
      try simp only [List.getElem_toArray, List.getElem_cons_succ, List.getElem_cons_zero, Act.put, List.setIfInBounds_toArray, List.set_cons_zero, List.set_cons_succ]
      refine wpAnyE_done (by kernel_rfl) ?_ _
      clear ho8 ho8' ho9 hs8 hff o7
      generalize w8.setCell ⟨b, 0, none⟩ (.slice d8 (x + 1) m8) = w10 at *
      go_wp2_with fail
      go_roundw
      case rel => exact ⟨x + 1, by omega, by go_num, b10, d8, m8, _, hvs2, ho10⟩
      case measure => simp [intOf]; omega
    · have hxn : x = M.length := by omega
      subst hxn
      have tb : wo.cell? ⟨b, 0, none⟩ = some (.slice d0 M.length m0) := ow_cell hown (.head _) (j := 0) (by omega)
      have xr : wo.cell? ⟨r, 0, none⟩ = some (.slice none 0 0) := (hb0.cell (p := ⟨r, 0, none⟩) hr).trans x0
      have xrf : wo.frozen? ⟨r, 0, none⟩ = false := (hb0.frozen (p := ⟨r, 0, none⟩) hr).trans xf
      have hset : (wo.setCell ⟨r, 0, none⟩ (.slice d0 M.length m0)).cell? ⟨r, 0, none⟩ = some (.slice d0 M.length m0) := by go_simp
      have hown3 := (hown.tail.setBelow (p := ⟨r, 0, none⟩) hr (.slice d0 M.length m0)).mono (show q ≤ B from hlw)
      have eF : Ext w (wo.setCell ⟨r, 0, none⟩ (.slice d0 M.length m0)) := ⟨eW.below.trans ((hb0.mono (by rw [hqd.out]; exact hlw)).setCell (by rw [hqd.out, hrd.out]; exact Nat.le_succ _) _)⟩
      go_wp2
      refine bodyPost_ret (v := .agg #[.slice d0 M.length m0]) (by simp [results, Try.results48, go_sem, hset]) rfl ?_
      rw [List.append_nil, List.take_length] at hown3
      exact ⟨_, _, vs, rfl, hvs.out, by rw [hqd.out]; exact hown3, eF⟩
theorem MOk.at {N : List (List Int)} {x y : Nat} (h : MOk N) (hx : x < N.length) (hy : y < N.length) : y < (row N x).length ∧ I64 (nth (row N x) y) := by
  obtain ⟨h1, h2, h3⟩ := h.2 _ (row_mem hx)
  exact ⟨by omega, h3 _ (nth_mem (by omega))⟩
set_option maxHeartbeats 3200000 in
set_option maxRecDepth 100000 in
theorem l6Close_any {v : Value} {M : List (List Int)} {w0 w : World} [Ext w0 w] (hm : IsMet w0 v M) (hM : MOk M) :
    Calls Try.prog 30 #[v] w fun e w' => ∃ d0 m0 vs N, e = .returned (.agg #[.slice d0 (N : List (List Int)).length m0]) ∧ vs.length = N.length ∧ MOk N ∧
      Own w' w.heap.size (rowsOf 24 3 (.slice d0 N.length m0) vs N) ∧ Ext w w' := by
  have hm' := hm
  obtain ⟨v1, rfl, hR⟩ := hm
  obtain ⟨a1, c1, rfl, l1⟩ := hR.form
  have hn7 := hM.1
  obtain ⟨n, hn⟩ : ∃ n, n = M.length := ⟨_, rfl⟩
  rw [← hn] at hn7
  go_enter Try.func30, Try.ntmps30
  go_upto_region 1 with fail
  have ez : Ext w ((w.alloc (.cells #[.slice a1 M.length c1] 29)).alloc (.cells #[.slice none 0 0] 29)) := inferInstance
  have q0 : ((w.alloc (.cells #[.slice a1 M.length c1] 29)).alloc (.cells #[.slice none 0 0] 29)).cell? ⟨w.heap.size, 0, none⟩ = some (.slice a1 M.length c1) := by go_simp
  have z0 : ((w.alloc (.cells #[.slice a1 M.length c1] 29)).alloc (.cells #[.slice none 0 0] 29)).cell? ⟨w.heap.size + 1, 0, none⟩ = some (.slice none 0 0) := by go_simp
  have zf : ((w.alloc (.cells #[.slice a1 M.length c1] 29)).alloc (.cells #[.slice none 0 0] 29)).frozen? ⟨w.heap.size + 1, 0, none⟩ = false := by go_simp
  have zs : ((w.alloc (.cells #[.slice a1 M.length c1] 29)).alloc (.cells #[.slice none 0 0] 29)).heap.size = w.heap.size + 2 := by simp
  generalize (w.alloc (.cells #[.slice a1 M.length c1] 29)).alloc (.cells #[.slice none 0 0] 29) = wa at *
  obtain ⟨r, hr⟩ : ∃ r, r = w.heap.size + 1 := ⟨_, rfl⟩
  rw [← hr] at z0 zf ⊢
  replace hr := hid hr
  replace zs := hid zs
  have e0a : Ext w0 wa := Ext.trans ‹Ext w0 w› ez
  replace hn := hid hn
  go_wp2_with fail
  with_reducible refine (l6Own_any (w0 := w0) hm' (by rw [← hn.out]; omega)).mono ?_
  rintro e w1 ⟨d0, m0, vs, rfl, hvs, hown, he1⟩
  rw [← hn.out] at hvs hown q0 ⊢
  rw [zs.out] at hown
  have hB1 : w.heap.size + 2 ≤ w1.heap.size := by have := he1.size; have := zs.out; omega
  have own0 : Own (w1.alloc (.cells #[.slice d0 n m0] 29)) (w.heap.size + 2) (rowsOf 24 3 (.slice d0 n m0) vs M ++ [boxRow 29 1 w1.heap.size [.slice d0 n m0]]) := by
    have h2 := hown.lit 29 1 1 #[.slice d0 n m0] hB1 (by unfold maxLen; omega) rfl
    exact h2.perm (List.perm_append_comm (l₁ := rowsOf _ _ _ _ _) (l₂ := [_]))
  have eW : Ext w (w1.alloc (.cells #[.slice d0 n m0] 29)) := Ext.trans ez (Ext.trans he1 inferInstance)
  have e1W : Ext wa (w1.alloc (.cells #[.slice d0 n m0] 29)) := Ext.trans he1 inferInstance
  have x0 := e1W.cell z0
  have xf := e1W.frozen z0 zf
  have q1 := e1W.cell q0
  have hBW : w.heap.size + 2 ≤ (w1.alloc (.cells #[.slice d0 n m0] 29)).heap.size := Nat.le_trans hB1 (Ext.size (a := w1) inferInstance)
  obtain ⟨b, hbb⟩ : ∃ b, b = w1.heap.size := ⟨_, rfl⟩
  rw [← hbb] at own0
  go_upto_region 2 with fail
  clear z0 zf hown q0 e1W
  generalize w1.alloc (.cells #[.slice d0 n m0] 29) = W at *
  rw [← hbb]
  replace hbb := hid hbb
  replace hvs := hid hvs
  obtain ⟨B, hB⟩ : ∃ B, B = w.heap.size + 2 := ⟨_, rfl⟩
  rw [← hB] at own0 hBW
  have hrB : r < B := by have := hr.out; omega
  have hlw : w.heap.size ≤ B := by omega
  replace hB := hid hB
  have hrw := hid (show w.heap.size ≤ r by have := hr.out; omega)
  go_upto_region 3 with fail
  clear q1
  have hfacts := hid (show ∀ u N, N.length = n → MOk N → Own u B (rowsOf 24 3 (.slice d0 n m0) vs N ++ [boxRow 29 1 b [.slice d0 n m0]]) → ∀ x, x < n → ∃ g gx mx, d0 = some ⟨g, 0, none⟩ ∧ u.cell? ⟨b, 0, none⟩ = some (.slice (some ⟨g, 0, none⟩) n m0) ∧ u.cell? ⟨g, x, none⟩ = some (.slice (some ⟨gx, 0, none⟩) (row N x).length mx) ∧ vs[x]? = some (.slice (some ⟨gx, 0, none⟩) (row N x).length mx) ∧ B ≤ gx from fun u N hN hok h x hx => by
    obtain ⟨gx, mx, hu, hBg⟩ := rw_form h (by rw [hvs.out, hN]) (j := x) (by omega) (by have := (hok.at (x := x) (y := x) (by omega) (by omega)).1; omega)
    obtain ⟨g, rfl⟩ := rw_addr h hvs.out (by omega)
    exact ⟨g, gx, mx, rfl, ow_cell h (List.mem_append_right _ (List.Mem.head _)) (j := 0) (by omega), (rw_cell h hvs.out hu).1, hu, hBg⟩)
  go_wp2
  go_loopw [5] (fun i wr => ∃ y : Nat, y ≤ n ∧ i = .int .i64 y ∧ Below B W wr ∧ ∃ N, Hid (N.length = n) ∧ MOk N ∧ Own wr B (rowsOf 24 3 (.slice d0 n m0) vs N ++ [boxRow 29 1 b [.slice d0 n m0]])) (fun i _ => n - (intOf i).toNat)
  case atStart => exact ⟨0, by omega, rfl, Below.refl _ _, M, hid hn.out.symm, hM, own0⟩
  case round =>
    obtain ⟨y, hy, rfl, hb0, N, hN, hok, hown⟩ := hrel
    obtain ⟨wo, rfl⟩ : ∃ y : World, y = wr := ⟨_, rfl⟩
    by_cases hlty : y < n
    · go_wp2
      go_loopw [6] (fun i wr => ∃ x : Nat, x ≤ n ∧ i = .int .i64 x ∧ Below B W wr ∧ ∃ N, Hid (N.length = n) ∧ MOk N ∧ Own wr B (rowsOf 24 3 (.slice d0 n m0) vs N ++ [boxRow 29 1 b [.slice d0 n m0]])) (fun i _ => n - (intOf i).toNat)
      case atStart => exact ⟨0, by omega, rfl, hb0, N, hN, hok, hown⟩
      case round =>
        obtain ⟨x, hx, rfl, hb1, N1, hN1, hok1, hown1⟩ := hrel
        obtain ⟨wp, rfl⟩ : ∃ y : World, y = wr := ⟨_, rfl⟩
        by_cases hltx : x < n
        · go_wp2
          go_loopw [7] (fun i wr => ∃ z : Nat, z ≤ n ∧ i = .int .i64 z ∧ Below B W wr ∧ ∃ N, Hid (N.length = n) ∧ MOk N ∧ Own wr B (rowsOf 24 3 (.slice d0 n m0) vs N ++ [boxRow 29 1 b [.slice d0 n m0]])) (fun i _ => n - (intOf i).toNat)
          case atStart => exact ⟨0, by omega, rfl, hb1, N1, hN1, hok1, hown1⟩
          case round =>
            obtain ⟨z, hz, rfl, hb2, N2, hN2, hok2, hown2⟩ := hrel
            obtain ⟨wq, rfl⟩ : ∃ y : World, y = wr := ⟨_, rfl⟩
            by_cases hltz : z < n
            · have hxl := hok2.at (x := x) (y := y) (by rw [hN2.out]; exact hltx) (by rw [hN2.out]; exact hlty)
              have hyl := hok2.at (x := y) (y := z) (by rw [hN2.out]; exact hlty) (by rw [hN2.out]; exact hltz)
              have hzl := hok2.at (x := x) (y := z) (by rw [hN2.out]; exact hltx) (by rw [hN2.out]; exact hltz)
              obtain ⟨g, gx, mx, rfl, tb, tx, hux, hBx⟩ := hfacts.out _ N2 hN2.out hok2 hown2 x hltx
              obtain ⟨g', gy, my, hg', _, ty, huy, hBy⟩ := hfacts.out _ N2 hN2.out hok2 hown2 y hlty
              cases hg'
              have cxy := rw_at hown2 (by rw [hN2.out]; exact hltx) hux rfl hxl.1
              have cyz := rw_at hown2 (by rw [hN2.out]; exact hlty) huy rfl hyl.1
              have cxz := rw_at hown2 (by rw [hN2.out]; exact hltx) hux rfl hzl.1
              have hok3 := fun p (hp : I64 p) => hok2.set (j := x) (by rw [hN2.out]; exact hltx) z hp
              have hN3 := fun p => (show (N2.set x ((row N2 x).set z p)).length = n by rw [List.length_set]; exact hN2.out)
              replace hok3 := hid hok3
              replace hN3 := hid hN3
              replace hux := hid hux
              replace huy := hid huy
              obtain ⟨cxy, _⟩ := cxy
              obtain ⟨cyz, _⟩ := cyz
              obtain ⟨cxz, cxzf⟩ := cxz
              have hxl1 := hxl.1
              have hyl1 := hyl.1
              have hzl1 := hzl.1
              clear hxl hyl hzl hown hown1 hok hok1
              generalize hlx : (row N2 x).length = lx at *
              generalize hly : (row N2 y).length = ly at *
              replace hlx := hid hlx
              replace hly := hid hly
              generalize nth (row N2 x) y = p1 at *
              generalize nth (row N2 y) z = p2 at *
              generalize nth (row N2 x) z = p3 at *
              by_cases h1 : p1 < 0
              · clear hok3 hN3
                go_wp2_with fail
                go_roundw
                case rel => exact ⟨z + 1, by omega, by go_num, hb2, N2, hN2, hok2, hown2⟩
                case measure => simp [intOf]; omega
              · by_cases h2 : p2 < 0
                · clear hok3 hN3
                  go_wp2_with fail
                  go_roundw
                  case rel => exact ⟨z + 1, by omega, by go_num, hb2, N2, hN2, hok2, hown2⟩
                  case measure => simp [intOf]; omega
                · go_upto_region 14 with (go_quiet (fail))
                  generalize hw3 : wq.drewN nq = w3
                  have ed : Ext wq w3 := hw3 ▸ inferInstance
                  have b3 : Below B W w3 := hb2.trans (ed.below.mono (Nat.le_trans hBW hb2.size))
                  have own3 := hown2.ext (w' := w3)
                  clear hw3 hown2 hb2
                  obtain ⟨D, hD⟩ : ∃ D, D = wrap64 (p1 + p2) := ⟨_, rfl⟩
                  rw [← hD]
                  have hDi : I64 D := by rw [hD]; unfold I64 wrap64; omega
                  replace hD := hid hD
                  have tb3 := ed.cell tb
                  have tx3 := ed.cell tx
                  have cz3 := ed.cell cxz
                  have cf3 := ed.frozen cxz cxzf
                  clear tb tx ty cxy cyz cxz cxzf h1 h2
                  have hput := rw_put own3 (by rw [hvs.out, hN2.out]) (by rw [hN2.out]; exact hltx) hux.out hlx.out z D
                  have hok4 := hok3.out D hDi
                  have hN4 := hid (hN3.out D)
                  have b4 := b3.setCell hBx (p := ⟨gx, z, none⟩) (.int .i64 D)
                  by_cases h3 : p3 < 0
                  · go_wp2_with fail
                    go_roundw
                    case rel => exact ⟨z + 1, by omega, by go_num, b4, _, hN4, hok4, hput⟩
                    case measure => simp [intOf]; omega
                  · by_cases h4 : D < p3
                    · go_wp2_with fail
                      go_roundw
                      case rel => exact ⟨z + 1, by omega, by go_num, b4, _, hN4, hok4, hput⟩
                      case measure => simp [intOf]; omega
                    · clear hput b4
                      go_wp2_with fail
                      go_roundw
                      case rel => exact ⟨z + 1, by omega, by go_num, b3, N2, hN2, hok2, own3⟩
                      case measure => simp [intOf]; omega
            · have hzn : z = n := by omega
              replace hzn := hid hzn
              go_wp2_with fail
              go_roundw
              case rel => exact ⟨x + 1, by omega, by go_num, hb2, N2, hN2, hok2, hown2⟩
              case measure => simp [intOf]; omega
        · have hxn : x = n := by omega
          replace hxn := hid hxn
          go_wp2_with fail
          go_roundw
          case rel => exact ⟨y + 1, by omega, by go_num, hb1, N1, hN1, hok1, hown1⟩
          case measure => simp [intOf]; omega
    · have hyn : y = n := by omega
      have tb : wo.cell? ⟨b, 0, none⟩ = some (.slice d0 n m0) := ow_cell hown (List.mem_append_right _ (List.Mem.head _)) (j := 0) (by omega)
      have xr : wo.cell? ⟨r, 0, none⟩ = some (.slice none 0 0) := (hb0.cell (p := ⟨r, 0, none⟩) hrB).trans x0
      have xrf : wo.frozen? ⟨r, 0, none⟩ = false := (hb0.frozen (p := ⟨r, 0, none⟩) hrB).trans xf
      have hset : (wo.setCell ⟨r, 0, none⟩ (.slice d0 n m0)).cell? ⟨r, 0, none⟩ = some (.slice d0 n m0) := by go_simp
      have hown3 := (hown.left.setBelow (p := ⟨r, 0, none⟩) hrB (.slice d0 n m0)).mono hlw
      have eF : Ext w (wo.setCell ⟨r, 0, none⟩ (.slice d0 n m0)) := ⟨eW.below.trans ((hb0.mono hlw).setCell hrw.out _)⟩
      replace hyn := hid hyn
      go_wp2
      refine bodyPost_ret (v := .agg #[.slice d0 n m0]) (by simp [results, Try.results30, go_sem, hset]) rfl ?_
      exact ⟨d0, m0, vs, N, by rw [hN.out], by rw [hvs.out, hN.out], hok, by rw [hN.out]; exact hown3, eF⟩
end Go.Proofs.Ytnlbjbnjjkilhaa
