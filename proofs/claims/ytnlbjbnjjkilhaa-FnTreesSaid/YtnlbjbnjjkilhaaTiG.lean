/- The program's cuts, walked: CutsOfTree. -/
import Derived.Test.YtnlbjbnjjkilhaaTiF
import Derived.Test.YtnlbjbnjjkilhaaTsE
import Derived.Test.YtnlbjbnjjkilhaaPackA
namespace Go.Proofs.Ytnlbjbnjjkilhaa
open Go.RowKit

theorem flat_cap {w : World} {B e z l m : Nat} {d : Option Addr} {cs : List Value} {R : List Row} (h : Own w B (⟨e, z, .slice d l m, l, cs⟩ :: R)) : l ≤ m ∧ m ≤ maxLen := by
  rcases h.head.2 with ⟨h1, h2⟩ | ⟨g, cap, cur, hv, _, _, hc, hm, _⟩
  · have h2' : l = 0 := h2
    cases h1
    exact ⟨Nat.le_refl _, by unfold maxLen; omega⟩
  · cases hv
    exact ⟨hc, hm⟩
theorem edR_cell {E F : List (Nat × Nat)} {i j : Nat} (h : E[i]? = F[j]?) : ∀ k, cell (edR E) i k = cell (edR F) j k := by
  intro k
  unfold cell row
  rw [List.getD_eq_getElem?_getD, List.getD_eq_getElem?_getD]
  have : (edR E)[i]? = (edR F)[j]? := by
    unfold edR
    rw [List.getElem?_map, List.getElem?_map, h]
  rw [this]
theorem flat_take2 {w : World} {b o n c : Nat} {E : List (Nat × Nat)} (h : IsFlat w (.slice (some ⟨b, o, none⟩) n c) 2 (edR E)) {k : Nat} (hk : k ≤ E.length) : IsFlat w (.slice (some ⟨b, o, none⟩) k c) 2 (edR (E.take k)) := by
  have hl : (edR (E.take k)).length = k := by rw [edR_len, List.length_take]; omega
  obtain ⟨h1, h2, h3⟩ := h.all
  refine ⟨_, c, by rw [hl], by rw [edR_len] at h1; omega, edR_all _, fun x hx => h3 x (by
    obtain ⟨e, he, rfl⟩ := List.mem_map.1 hx
    exact List.mem_map.2 ⟨e, List.mem_of_mem_take he, rfl⟩), fun j hj => ?_⟩
  rw [hl] at hj
  obtain ⟨b', o', e1, e2⟩ := h.at (w' := w) (j := j) (by rw [edR_len]; omega)
  cases e1
  refine ⟨b, o, rfl, fun q hq => ?_⟩
  rw [e2 q hq, edR_cell (E := E.take k) (F := E) (i := j) (j := j) (by rw [List.getElem?_take_of_lt hj])]
theorem flat_drop2 {w : World} {b o n c : Nat} {E : List (Nat × Nat)} (h : IsFlat w (.slice (some ⟨b, o, none⟩) n c) 2 (edR E)) {k : Nat} (hk : k ≤ E.length) (hnc : E.length ≤ c) : IsFlat w (.slice (some ⟨b, if c = k then o else o + k * 2, none⟩) (E.length - k) (c - k)) 2 (edR (E.drop k)) := by
  have hl : (edR (E.drop k)).length = E.length - k := by rw [edR_len, List.length_drop]
  obtain ⟨h1, h2, h3⟩ := h.all
  refine ⟨_, c - k, by rw [hl], by rw [edR_len] at h1; omega, edR_all _, fun x hx => h3 x (by
    obtain ⟨e, he, rfl⟩ := List.mem_map.1 hx
    exact List.mem_map.2 ⟨e, List.mem_of_mem_drop he, rfl⟩), fun j hj => ?_⟩
  rw [hl] at hj
  rw [if_neg (by omega)]
  obtain ⟨b', o', e1, e2⟩ := h.at (w' := w) (j := k + j) (by rw [edR_len]; omega)
  cases e1
  refine ⟨b, o + k * 2, rfl, fun q hq => ?_⟩
  have := e2 q hq
  rw [show o + (k + j) * 2 + q = o + k * 2 + j * 2 + q by omega] at this
  rw [this, edR_cell (E := E.drop k) (F := E) (i := j) (j := k + j) (by rw [List.getElem?_drop])]
set_option maxHeartbeats 3200000 in
set_option maxRecDepth 100000 in
theorem implCT_any {v : Value} {M : List (List Int)} {w0 w : World} [Ext w0 w] (hm : IsMet w0 v M) :
    Calls Try.prog 16 #[v] w (CTPost M w) := by
  have hm' := hm
  have hTr := hid (fun (hM : metB M = true) (u : World) (eu : Ext w0 u) => @spanningTree_any v M w0 u eu hm' hM)
  have hrd := hid (fun (hM : metB M = true) (T : List (Nat × Nat)) (hK : Kr (edL (cell M) M.length) T) => show (∀ e, e ∈ T → e.1 < M.length ∧ e.2 < M.length) ∧ T.length ≤ 6 from by
    have h1 := (met_srt hM).lt
    have h2 := kr_len (met_srt hM) hK (met_len hM).1
    have h3 := met_len hM
    exact ⟨fun e he => h1 e (hK.sub e he), by omega⟩)
  have hn6 := hid (fun (hM : metB M = true) => (met_len hM))
  obtain ⟨v1, rfl, hR⟩ := hm
  obtain ⟨a1, c1, rfl, l1⟩ := hR.form
  obtain ⟨mb, hmb⟩ : ∃ mb, mb = metB M := ⟨_, rfl⟩
  obtain ⟨OK, hOK⟩ : ∃ P, P = CtOk M := ⟨_, rfl⟩
  obtain ⟨n, hn⟩ : ∃ n, n = M.length := ⟨_, rfl⟩
  unfold CTPost
  rw [← hmb, ← hOK]
  rw [← hn] at hrd hn6 hR l1 hm' hTr ⊢
  replace hOK := hid hOK
  replace hn := hid hn
  go_enter Try.func16, Try.ntmps16
  go_upto_region 1 with fail
  have ea : Ext w (w.alloc (.cells #[.slice a1 n c1] 29)) := inferInstance
  have qa : (w.alloc (.cells #[.slice a1 n c1] 29)).cell? ⟨w.heap.size, 0, none⟩ = some (.slice a1 n c1) := by go_simp
  generalize w.alloc (.cells #[.slice a1 n c1] 29) = wa at *
  have e0a : Ext w0 wa := Ext.trans ‹Ext w0 w› ea
  cases mb with
  | false =>
    have hM := hid hmb.symm
    clear hmb
    have hno := hid (show OK [] by rw [hOK.out]; unfold CtOk; rw [hM.out]; rfl)
    go_wp2_with fail
    with_reducible refine (IsMetric_any (w0 := w0) hm').mono ?_
    rw [hM.out]
    rintro e w1 ⟨rfl, e1⟩
    have eF : Ext w w1 := Ext.trans ea e1
    go_wp2_with fail
    refine bodyPost_ret (v := .tuple #[.slice none 0 0, .bool false]) (by simp [results, Try.results16, go_sem]) rfl ?_
    exact ⟨_, 0, [], rfl, hno.out, IsRows.none _ _ _, eF⟩
  | true =>
    have hM := hid hmb.symm
    clear hmb
    go_wp2_with fail
    with_reducible refine (IsMetric_any (w0 := w0) hm').mono ?_
    rw [hM.out]
    rintro e w1 ⟨rfl, e1⟩
    have q1 := e1.cell qa
    go_upto_region 4 with fail
    have ew1 : Ext w w1 := Ext.trans ea e1
    have ownb : Own (w1.alloc (.cells #[] 24)) w1.heap.size (rowsOf 24 3 (.slice (some ⟨w1.heap.size, 0, none⟩) 0 0) [] [] ++ []) :=
      (Own.nil w1 w1.heap.size).lit 24 1 0 #[] (Nat.le_refl _) (by unfold maxLen; omega) rfl
    have eb : Ext w1 (w1.alloc (.cells #[] 24)) := inferInstance
    have hsb : w1.heap.size ≤ (w1.alloc (.cells #[] 24)).heap.size := eb.size
    have hw1 : w.heap.size ≤ w1.heap.size := ew1.size
    obtain ⟨B, hB⟩ : ∃ B, B = w1.heap.size := ⟨_, rfl⟩
    rw [← hB] at ownb hsb hw1 ⊢
    replace hB := hid hB
    have e0b : Ext w0 (w1.alloc (.cells #[] 24)) := Ext.trans ‹Ext w0 w› (Ext.trans ew1 eb)
    have ewb : Ext w (w1.alloc (.cells #[] 24)) := Ext.trans ew1 eb
    have qb := eb.cell q1
    clear eb ea e1 qa q1
    generalize w1.alloc (.cells #[] 24) = wb at *
    go_wp2_with fail
    with_reducible refine (hTr.out hM.out wb e0b).mono ?_
    rintro e w2 ⟨dT, mT, T, rfl, hK, ownT, e2⟩
    obtain ⟨hTn, hT6⟩ := hrd.out hM.out T hK
    have hn7 := hn6.out hM.out
    have hyes := hid (fun (C : List (List Int)) (hC : CtIs T C) => show OK C by rw [hOK.out]; unfold CtOk; rw [if_pos hM.out]; exact ⟨T, by rw [← hn.out]; exact hK, hC⟩)
    replace hTn := hid hTn
    have hcap := flat_cap (edges_row ownT rfl)
    have own2 := (ownb.join ownT (e := e2) hsb).swap
    rw [List.append_nil] at own2
    have ew2 : Ext w w2 := Ext.trans ewb e2
    have hB2 : B ≤ w2.heap.size := Nat.le_trans hsb e2.size
    clear hK ownT ownb e0b ewb qb
    have hE2 := hid (show ∀ u, Below B w2 u → Ext w u from fun u h => ⟨ew2.below.trans (h.mono hw1)⟩)
    have hTr2 := hid (fun (u : World) (R : List Row) (h : Own u B (flatRowOf 46 2 (.slice dT T.length mT) (edR T) :: R)) => edges_read h (n := n) (by omega) (by omega) hTn.out)
    clear hTr hrd e2 e0a
    go_upto_region 6 with fail
    go_loopw [4, 16] (fun ov iv wr => ∃ (i : Nat) (d : Option Addr) (m : Nat) (vs : List Value) (C : List (List Int)), ov = .slice d i m ∧ iv = .int .i64 i ∧ i ≤ T.length ∧ Hid (vs.length = i) ∧ Hid (CtTo T C i) ∧ Own wr B (rowsOf 24 3 (.slice d i m) vs C ++ [flatRowOf 46 2 (.slice dT T.length mT) (edR T)]) ∧ Below B w2 wr) (fun _ iv _ => T.length - (intOf iv).toNat)
    case atStart => exact ⟨0, _, _, [], [], rfl, rfl, by omega, hid rfl, hid ⟨rfl, fun j _ hj => by omega⟩, own2, Below.refl _ _⟩
    case round =>
      clear own2
      obtain ⟨i, d, m, vs, C, rfl, rfl, hi, hvs, hC, own, hb⟩ := hrel
      obtain ⟨wo, rfl⟩ : ∃ y : World, y = wr := ⟨_, rfl⟩
      by_cases hil : i < T.length
      · obtain ⟨e, he⟩ : ∃ e, T[i]? = some e := ⟨_, List.getElem?_eq_getElem hil⟩
        have hen := hTn.out e (List.mem_of_getElem? he)
        have hFT : IsFlat wo (.slice dT T.length mT) 2 (edR T) := hTr2.out wo [] own.right
        obtain ⟨bE, oE, hdT, c0, c1'⟩ := edge_at hFT (w' := wo) he
        subst hdT
        obtain ⟨e1, e2⟩ := e
        simp only at c0 c1' hen
        have hFA := flat_take2 hFT (k := i) (by omega)
        have hFC := flat_drop2 hFT (k := i + 1) (by omega) hcap.1
        have hCs := hid (fun (L : List Int) (hL : SdL (T.take i ++ T.drop (i + 1)) e1 L) => hC.out.snoc he hL)
        have hETn := hid (show ∀ e, e ∈ T.take i ++ T.drop (i + 1) → e.1 < n ∧ e.2 < n from fun e he => by
          rcases List.mem_append.1 he with h | h
          · exact hTn.out e (List.mem_of_mem_take h)
          · exact hTn.out e (List.mem_of_mem_drop h))
        have hlA : (T.take i).length = i := by rw [List.length_take]; omega
        have hlC : (T.drop (i + 1)).length = T.length - (i + 1) := by rw [List.length_drop]
        clear he hFT
        have hBo := Nat.le_trans hB2 hb.size
        go_upto_region 8 with fail
        have xE0 : (wo.alloc (.cells #[.int .i64 (e1 : Int), .int .i64 (e2 : Int)] 46)).cell? ⟨wo.heap.size, 0, none⟩ = some (.int .i64 (e1 : Int)) := by go_simp
        have eE : Ext wo (wo.alloc (.cells #[.int .i64 (e1 : Int), .int .i64 (e2 : Int)] 46)) := inferInstance
        generalize wo.alloc (.cells #[.int .i64 (e1 : Int), .int .i64 (e2 : Int)] 46) = w5 at *
        generalize hgE : wo.heap.size = gE at *
        replace hgE := hid hgE
        have ed : Ext w5 w5.drew := inferInstance
        have xd := ed.cell xE0
        obtain ⟨q7, hq7⟩ : ∃ q, q = if mT = i + 1 then oE else oE + (i + 1) * 2 := ⟨_, rfl⟩
        rw [← hq7] at hFC
        replace hq7 := hid hq7
        refine wp_region_E_drew (X := fun i => i == 14 || i == 15) (S := fun u => u.cell? ⟨gE, 0, none⟩ = some (.int .i64 (e1 : Int))) (by kernel_rfl) xd (fun hHeld0 => ?_)
        generalize w5.drew = wd at *
        have e0d : Ext wo wd := Ext.trans eE ed
        have hmTi : i + 1 ≤ mT := by omega
        have hmTm : mT ≤ 9223372036854775807 := by have := hcap.2; unfold maxLen at this; omega
        refine wpAnyE_takeT (i := 0) (v := .slice d i m) rfl (by kernel_rfl) (by kernel_rfl) (by kernel_rfl) (fun _ _ _ h => h) (Or.inl ⟨by rfl, by intro wx hx; go_simp⟩) (by assumption) ?_
        try simp only [List.getElem_toArray, List.getElem_cons_zero, Act.put, List.setIfInBounds_toArray, List.set_cons_zero, List.set_cons_succ]
        refine wpAnyE_takeT (i := 1) (v := .slice (some ⟨bE, oE, none⟩) T.length mT) rfl (by kernel_rfl) (by kernel_rfl) (by kernel_rfl) (fun _ _ _ h => h) (Or.inl ⟨by rfl, by intro wx hx; go_simp⟩) (by assumption) ?_
        try simp only [List.getElem_toArray, List.getElem_cons_succ, List.getElem_cons_zero, Act.put, List.setIfInBounds_toArray, List.set_cons_zero, List.set_cons_succ]
        refine wpAnyE_takeT (i := 2) (v := .int .i64 i) rfl (by kernel_rfl) (by kernel_rfl) (by kernel_rfl) (fun _ _ _ h => h) (Or.inl ⟨by rfl, by intro wx hx; go_simp⟩) (by assumption) ?_
        try simp only [List.getElem_toArray, List.getElem_cons_succ, List.getElem_cons_zero, Act.put, List.setIfInBounds_toArray, List.set_cons_zero, List.set_cons_succ]
        refine wpAnyE_takeT (i := 3) (v := .slice (some ⟨bE, oE, none⟩) i mT) rfl (by kernel_rfl) (by kernel_rfl) (by kernel_rfl) (fun _ _ _ h => h) (Or.inl ⟨by rfl, by intro wx hx; go_simp <;> (intro h; exfalso; omega)⟩) (by assumption) ?_
        try simp only [List.getElem_toArray, List.getElem_cons_succ, List.getElem_cons_zero, Act.put, List.setIfInBounds_toArray, List.set_cons_zero, List.set_cons_succ]
        refine wpAnyE_takeT (i := 4) (v := .slice (some ⟨bE, oE, none⟩) T.length mT) rfl (by kernel_rfl) (by kernel_rfl) (by kernel_rfl) (fun _ _ _ h => h) (Or.inl ⟨by rfl, by intro wx hx; go_simp⟩) (by assumption) ?_
        try simp only [List.getElem_toArray, List.getElem_cons_succ, List.getElem_cons_zero, Act.put, List.setIfInBounds_toArray, List.set_cons_zero, List.set_cons_succ]
        refine wpAnyE_takeT (i := 5) (v := .int .i64 i) rfl (by kernel_rfl) (by kernel_rfl) (by kernel_rfl) (fun _ _ _ h => h) (Or.inl ⟨by rfl, by intro wx hx; go_simp⟩) (by assumption) ?_
        try simp only [List.getElem_toArray, List.getElem_cons_succ, List.getElem_cons_zero, Act.put, List.setIfInBounds_toArray, List.set_cons_zero, List.set_cons_succ]
        refine wpAnyE_takeT (i := 6) (v := .int .i64 ((i : Int) + 1)) rfl (by kernel_rfl) (by kernel_rfl) (by kernel_rfl) (fun _ _ _ h => h) (Or.inl ⟨by rfl, by intro wx hx; go_simp <;> exact IntWalk.i64_in _ (by omega)⟩) (by assumption) ?_
        try simp only [List.getElem_toArray, List.getElem_cons_succ, List.getElem_cons_zero, Act.put, List.setIfInBounds_toArray, List.set_cons_zero, List.set_cons_succ]
        refine wpAnyE_takeT (i := 7) (v := .slice (some ⟨bE, q7, none⟩) (T.length - (i + 1)) (mT - (i + 1))) rfl (by kernel_rfl) (by kernel_rfl) (by kernel_rfl) (fun _ _ _ h => h) (Or.inl ⟨by rfl, by intro wx hx; go_simp; rw [if_pos ⟨by omega, by omega⟩, hq7.out]; split <;> rfl⟩) (by assumption) ?_
        try simp only [List.getElem_toArray, List.getElem_cons_succ, List.getElem_cons_zero, Act.put, List.setIfInBounds_toArray, List.set_cons_zero, List.set_cons_succ]
        refine wpAnyE_takeT (i := 10) (v := .pointer (some ⟨gE, 0, none⟩)) rfl (by kernel_rfl) (by kernel_rfl) (by kernel_rfl) (fun _ _ _ h => h) (Or.inl ⟨by rfl, by intro wx hx; go_simp⟩) (by assumption) ?_
        try simp only [List.getElem_toArray, List.getElem_cons_succ, List.getElem_cons_zero, Act.put, List.setIfInBounds_toArray, List.set_cons_zero, List.set_cons_succ]
        refine wpAnyE_takeT (i := 11) (v := .int .i64 (e1 : Int)) rfl (by kernel_rfl) (by kernel_rfl) (by kernel_rfl) (fun _ _ _ h => h) (Or.inl ⟨by rfl, by intro wx hx; go_simp⟩) (by assumption) ?_
        try simp only [List.getElem_toArray, List.getElem_cons_succ, List.getElem_cons_zero, Act.put, List.setIfInBounds_toArray, List.set_cons_zero, List.set_cons_succ]
        refine wpAnyE_ready (rs := [8]) (by kernel_rfl) (by simp) ?_
        refine AllReadyE.cons rfl (fun K hK => ?_) AllReadyE.nil
        go_simp
        have hBd : B ≤ wd.heap.size := Nat.le_trans (Nat.le_trans hB2 hb.size) e0d.size
        have eA : Ext wd (wd.alloc (.cells #[.slice (some ⟨bE, oE, none⟩) i mT, .slice (some ⟨bE, q7, none⟩) (T.length - (i + 1)) (mT - (i + 1))] 35)) := inferInstance
        have y0 : (wd.alloc (.cells #[.slice (some ⟨bE, oE, none⟩) i mT, .slice (some ⟨bE, q7, none⟩) (T.length - (i + 1)) (mT - (i + 1))] 35)).cell? ⟨wd.heap.size, 0, none⟩ = some (.slice (some ⟨bE, oE, none⟩) i mT) := by go_simp
        have y1 : (wd.alloc (.cells #[.slice (some ⟨bE, oE, none⟩) i mT, .slice (some ⟨bE, q7, none⟩) (T.length - (i + 1)) (mT - (i + 1))] 35)).cell? ⟨wd.heap.size, 1, none⟩ = some (.slice (some ⟨bE, q7, none⟩) (T.length - (i + 1)) (mT - (i + 1))) := by go_simp
        refine hK.out _ _ (.inr (eA.cell hHeld0)) (fun _ => ?_)
        clear hK K
        try simp only [List.getElem_toArray, List.getElem_cons_succ, List.getElem_cons_zero, Act.put, List.setIfInBounds_toArray, List.set_cons_zero, List.set_cons_succ]
        have x2 := eA.cell hHeld0
        have e02 : Ext wo (wd.alloc (.cells #[.slice (some ⟨bE, oE, none⟩) i mT, .slice (some ⟨bE, q7, none⟩) (T.length - (i + 1)) (mT - (i + 1))] 35)) := Ext.trans e0d eA
        generalize wd.alloc (.cells #[.slice (some ⟨bE, oE, none⟩) i mT, .slice (some ⟨bE, q7, none⟩) (T.length - (i + 1)) (mT - (i + 1))] 35) = w6 at *
        generalize wd.heap.size = g6 at *
        have hFA6 := hFA.ext (w' := w6) (e := e02)
        have hFC6 := hFC.ext (w' := w6) (e := e02)
        refine wpAnyE_ready (rs := [9]) (by kernel_rfl) (by simp) ?_
        refine AllReadyE.cons rfl (fun K hK => ?_) AllReadyE.nil
        go_simp
        go_at_call 41
        with_reducible refine (concatE_any (A := T.take i) (C := T.drop (i + 1)) (w := w6) y0 y1 hFA6 hFC6 (by rw [hlA, hlC]; omega)).mono ?_
        rintro e w7 ⟨dX, mX, rfl, ownX, e7⟩
        obtain ⟨lX, hlX⟩ : ∃ l, l = (T.take i ++ T.drop (i + 1)).length := ⟨_, rfl⟩
        rw [← hlX] at ownX ⊢
        have hlX6 : lX ≤ 6 := by rw [hlX, List.length_append, hlA, hlC]; omega
        have hFX : IsFlat w7 (.slice dX lX mX) 2 (edR (T.take i ++ T.drop (i + 1))) := by
          have h := edges_read ownX (n := n) (by omega) (by rw [← hlX]; omega) hETn.out
          exact h
        have e07 : Ext wo w7 := Ext.trans e02 e7
        have x7 := e7.cell x2
        replace hlX := hid hlX
        clear hFA hFC hFA6 hFC6 ownX hHeld0 xd xE0 y0 y1
        go_wp2_with fail
        refine hK.out _ _ (.inr x7) (fun _ => ?_)
        clear hK K
        try simp only [List.getElem_toArray, List.getElem_cons_succ, List.getElem_cons_zero, Act.put, List.setIfInBounds_toArray, List.set_cons_zero, List.set_cons_succ]
        refine wpAnyE_ready (rs := [12]) (by kernel_rfl) (by simp) ?_
        refine AllReadyE.cons rfl (fun K hK => ?_) AllReadyE.nil
        go_simp
        go_at_call 40
        with_reducible refine (sideOf_any (w0 := w7) (w := w7) (n := n) hFX (by omega) hen.1 hETn.out).mono ?_
        rintro e w3 ⟨dL, mL, L, rfl, hSd, iL, ownL, e3⟩
        have hC2 := hid (hCs.out L hSd)
        have e03 : Ext wo w3 := Ext.trans e07 e3
        have own7 := own.ext (w' := w7) (e := e07)
        have hB7 : B ≤ w7.heap.size := Nat.le_trans (Nat.le_trans hB2 hb.size) e07.size
        have own3 := own7.join ownL (e := e3) hB7
        have hb3 := hb.trans (e03.below.mono (Nat.le_trans hB2 hb.size))
        have f0 := e3.cell x7
        clear ownL iL hCs own hSd own7 hFX x7
        obtain ⟨lL, hlL⟩ : ∃ q, q = L.length := ⟨_, rfl⟩
        rw [← hlL] at own3 ⊢
        replace hlL := hid hlL
        go_wp2_with fail
        refine hK.out _ _ (.inr f0) (fun _ => ?_)
        clear hK K
        try simp only [List.getElem_toArray, List.getElem_cons_succ, List.getElem_cons_zero, Act.put, List.setIfInBounds_toArray, List.set_cons_zero, List.set_cons_succ]
        have hB3 := Nat.le_trans hB2 hb3.size
        refine wpAnyE_ready (rs := [13]) (by kernel_rfl) (by simp) ?_
        refine AllReadyE.cons rfl (fun K hK => ?_) AllReadyE.nil
        go_simp
        have o6 := own3.lit 24 1 1 #[.slice dL lL mL] hB3 (by unfold maxLen; omega) rfl
        have e6 : Ext w3 (w3.alloc (.cells #[.slice dL lL mL] 24)) := inferInstance
        have hn6' : (w3.alloc (.cells #[.slice dL lL mL] 24)).cell? ⟨w3.heap.size, 0, none⟩ = some (.slice dL lL mL) := by go_simp
        have b6 := hb3.trans (e6.below.mono hB3)
        refine hK.out _ _ (.inr (e6.cell f0)) (fun _ => ?_)
        clear hK K
        try simp only [List.getElem_toArray, List.getElem_cons_succ, List.getElem_cons_zero, Act.put, List.setIfInBounds_toArray, List.set_cons_zero, List.set_cons_succ]
        have o7 := rw_out (A := []) o6.tail
        rw [hvs.out] at o7
        clear o6 own3 hb3
        generalize w3.alloc (.cells #[.slice dL lL mL] 24) = w8 at *
        generalize w3.heap.size = g8 at *
        have hB8 : B ≤ w8.heap.size := Nat.le_trans hB2 b6.size
        have hi16 : i ≤ 6 := by omega
        refine wpAnyE_ready (rs := [14]) (by kernel_rfl) (by simp) ?_
        refine AllReadyE.cons rfl (fun K hK => ?_) AllReadyE.nil
        refine stp_one rfl (.tmp 21) (.tmp 34) 27 rfl elemInts rfl o7 hB8 (us := [.slice dL lL mL]) rfl rfl ?_ (by intro u hu; simp at hu; subst hu; rfl) (by omega) (by omega) ?_
        · intro jj u hj
          match jj, hj with
          | 0, hj => simp at hj; subst hj; exact hn6'
        intro v8 w9 ho8 hb8
        obtain ⟨d8, m8, hv8⟩ := ho8.form
        have hv8' : v8 = .slice d8 (i + 1) m8 := hv8
        subst hv8'
        clear hv8
        have b8 := b6.trans hb8
        rw [← hvs.out] at ho8
        have ho9 := rw_in (A := []) ho8 (by rw [hvs.out, hC.out.1])
        rw [hvs.out] at ho9
        simp only [List.nil_append] at ho9
        refine hK.out _ _ (.inl rfl) (fun _ => ?_)
        clear hK K
        try simp only [List.getElem_toArray, List.getElem_cons_succ, List.getElem_cons_zero, Act.put, List.setIfInBounds_toArray, List.set_cons_zero, List.set_cons_succ]
        refine wpAnyE_ready (rs := [15]) (by kernel_rfl) (by simp) ?_
        refine AllReadyE.cons rfl (fun K hK => ?_) AllReadyE.nil
        go_simp
        refine hK.out _ _ (.inl rfl) (fun _ => ?_)
        clear hK K
        try simp only [List.getElem_toArray, List.getElem_cons_succ, List.getElem_cons_zero, Act.put, List.setIfInBounds_toArray, List.set_cons_zero, List.set_cons_succ]
        refine wpAnyE_done (by kernel_rfl) ?_ _
        have hvs2 := hid (show (vs ++ [Value.slice dL lL mL]).length = i + 1 by rw [List.length_append, hvs.out]; rfl)
        clear ho8 o7 f0
        go_wp2_with fail
        go_roundw
        case rel => exact ⟨i + 1, d8, m8, _, _, rfl, by go_num, by omega, hvs2, hC2, ho9, b8⟩
        case measure => simp [intOf]; omega
      · have hiT : i = T.length := by omega
        have hCi := hid (show CtTo T C T.length by rw [← hiT]; exact hC.out)
        have hOKC := hid (hyes.out C hCi.out.fin)
        have hrows := hCi.out.rows (Nat.le_refl _) (by omega) hTn.out
        have hCl := hC.out.1
        have hRC : IsRows wo (.slice d i m) C := by
          exact own.readsAll (by rw [hvs.out, hCl]) (by unfold ShortRows; omega) (fun r hr => (hrows r hr).1) (fun r hr => (hrows r hr).2)
        have eF := hE2.out wo hb
        replace hiT := hid hiT
        go_wp2_with fail
        refine bodyPost_ret (v := .tuple #[.slice d i m, .bool true]) (by simp [results, Try.results16, go_sem]) rfl ?_
        exact ⟨d, m, C, by rw [hCl], hOKC.out, by rw [hCl]; exact hRC, eF⟩
end Go.Proofs.Ytnlbjbnjjkilhaa
