/- The cuts of the reference, walked: CutsOfTree. -/
import Derived.Test.YtnlbjbnjjkilhaaTsD
namespace Go.Proofs.Ytnlbjbnjjkilhaa
open Go.RowKit

theorem IsRows.none (w : World) (d : Option Addr) (c : Nat) : IsRows w (.slice d 0 c) [] := ⟨d, c, rfl, Nat.zero_le _, fun j hj => by simp at hj⟩
set_option maxHeartbeats 3200000 in
set_option maxRecDepth 100000 in
theorem specCT_any {v : Value} {M : List (List Int)} {w0 w : World} [Ext w0 w] (hm : IsMet w0 v M) :
    Calls Try.prog 17 #[v] w (CTPost M w) := by
  have hm' := hm
  have hTr := hid (fun (hM : metB M = true) (u : World) (eu : Ext w0 u) => @l6Tree_any v M w0 u eu hm' hM)
  have hrd := hid (fun (hM : metB M = true) (T : List (Nat × Nat)) (hK : Kr (edL (cell M) M.length) T) => show (∀ e, e ∈ T → e.1 < M.length ∧ e.2 < M.length) ∧ T.length ≤ 6 from by
    have h1 := (met_srt hM).lt
    have h2 := kr_len (met_srt hM) hK (met_len hM).1
    have h3 := met_len hM
    exact ⟨fun e he => h1 e (hK.sub e he), by omega⟩)
  have hn6 := hid (fun (hM : metB M = true) => (met_len hM))
  obtain ⟨v1, rfl, hR⟩ := hm
  obtain ⟨a1, c1, rfl, l1⟩ := hR.form
  obtain ⟨mb, hmb⟩ : ∃ mb, mb = metB M := ⟨_, rfl⟩
  obtain ⟨OK, hOK⟩ : ∃ P, P = CtOk M := ⟨_, rfl⟩
  obtain ⟨n, hn⟩ : ∃ n, n = M.length := ⟨_, rfl⟩
  unfold CTPost
  rw [← hmb, ← hOK]
  rw [← hn] at hrd hn6 hR l1 hm' hTr ⊢
  replace hOK := hid hOK
  replace hn := hid hn
  go_enter Try.func17, Try.ntmps17
  go_upto_region 1 with fail
  have ea : Ext w (w.alloc (.cells #[.slice a1 n c1] 29)) := inferInstance
  have qa : (w.alloc (.cells #[.slice a1 n c1] 29)).cell? ⟨w.heap.size, 0, none⟩ = some (.slice a1 n c1) := by go_simp
  have sa : (w.alloc (.cells #[.slice a1 n c1] 29)).heap.size = w.heap.size + 1 := by simp
  generalize w.alloc (.cells #[.slice a1 n c1] 29) = wa at *
  replace sa := hid sa
  have ownb : Own (wa.alloc (.cells #[] 24)) wa.heap.size (rowsOf 24 3 (.slice (some ⟨wa.heap.size, 0, none⟩) 0 0) [] [] ++ []) :=
    (Own.nil wa wa.heap.size).lit 24 1 0 #[] (Nat.le_refl _) (by unfold maxLen; omega) rfl
  have eb : Ext wa (wa.alloc (.cells #[] 24)) := inferInstance
  have hsb : wa.heap.size ≤ (wa.alloc (.cells #[] 24)).heap.size := eb.size
  go_upto_region 2 with fail
  obtain ⟨B, hB⟩ : ∃ B, B = wa.heap.size := ⟨_, rfl⟩
  rw [← hB] at ownb hsb ⊢
  have hqB : w.heap.size < B := by have := sa.out; omega
  replace hB := hid hB
  have e0b : Ext w0 (wa.alloc (.cells #[] 24)) := Ext.trans ‹Ext w0 w› (Ext.trans ea eb)
  have ewb : Ext w (wa.alloc (.cells #[] 24)) := Ext.trans ea eb
  have qb := eb.cell qa
  clear ea qa eb
  generalize wa.alloc (.cells #[] 24) = wb at *
  have hlw : w.heap.size ≤ B := by omega
  cases mb with
  | false =>
    have hM := hid hmb.symm
    clear hmb
    have hno := hid (show OK [] by rw [hOK.out]; unfold CtOk; rw [hM.out]; rfl)
    go_wp2_with fail
    with_reducible refine (l6Good_any (w0 := w0) hm').mono ?_
    rw [hM.out]
    rintro e w1 ⟨rfl, e1⟩
    have eF : Ext w w1 := Ext.trans ewb e1
    go_wp2_with fail
    refine bodyPost_ret (v := .tuple #[.slice (some ⟨B, 0, none⟩) 0 0, .bool false]) (by simp [results, Try.results17, go_sem]) rfl ?_
    exact ⟨_, 0, [], rfl, hno.out, IsRows.none _ _ _, eF⟩
  | true =>
    have hM := hid hmb.symm
    clear hmb
    go_wp2_with fail
    with_reducible refine (l6Good_any (w0 := w0) hm').mono ?_
    rw [hM.out]
    rintro e w1 ⟨rfl, e1⟩
    have q1 := e1.cell qb
    have e01 : Ext w0 w1 := Ext.trans e0b e1
    have own1 := ownb.ext (w' := w1) (e := e1)
    have hB1 : B ≤ w1.heap.size := Nat.le_trans hsb e1.size
    go_wp2_with fail
    with_reducible refine (hTr.out hM.out w1 e01).mono ?_
    rintro e w2 ⟨dT, mT, T, rfl, hK, ownT, e2⟩
    obtain ⟨hTn, hT6⟩ := hrd.out hM.out T hK
    have hn7 := hn6.out hM.out
    have hyes := hid (fun (C : List (List Int)) (hC : CtIs T C) => show OK C by rw [hOK.out]; unfold CtOk; rw [if_pos hM.out]; exact ⟨T, by rw [← hn.out]; exact hK, hC⟩)
    replace hTn := hid hTn
    have own2 := (own1.join ownT (e := e2) hB1).swap
    rw [List.append_nil] at own2
    have q2 := e2.cell q1
    have ew2 : Ext w w2 := Ext.trans (Ext.trans ewb e1) e2
    have e02 : Ext w0 w2 := Ext.trans e01 e2
    have hB2 : B ≤ w2.heap.size := Nat.le_trans hB1 e2.size
    obtain ⟨sv, hsv⟩ : ∃ s, s = smT (cell M) T := ⟨_, rfl⟩
    rw [← hsv]
    clear hK ownT own1 ownb e01 e0b ewb qb q1 e1 hsv
    have hE2 := hid (show ∀ u, Below B w2 u → Ext w u from fun u h => ⟨ew2.below.trans (h.mono hlw)⟩)
    have hE0 := hid (show ∀ u, Below B w2 u → Ext w0 u from fun u h => ⟨e02.below.trans (h.mono (Nat.le_trans (‹Ext w0 w›).size hlw))⟩)
    have hq := hid (show ∀ u, Below B w2 u → u.cell? ⟨w.heap.size, 0, none⟩ = some (.slice a1 n c1) from fun u h => (h.cell (p := ⟨w.heap.size, 0, none⟩) hqB).trans q2)
    have hTr2 := hid (fun (u : World) (R : List Row) (h : Own u B (flatRowOf 46 2 (.slice dT T.length mT) (edR T) :: R)) => edges_read h (n := n) (by omega) (by omega) hTn.out)
    clear q2 e02 hTr hrd e2
    go_upto_region 6 with fail
    go_loopw [4, 7] (fun ov iv wr => ∃ (i : Nat) (d : Option Addr) (m : Nat) (vs : List Value) (C : List (List Int)), ov = .slice d i m ∧ iv = .int .i64 i ∧ i ≤ T.length ∧ Hid (vs.length = i) ∧ Hid (CtTo T C i) ∧ Own wr B (rowsOf 24 3 (.slice d i m) vs C ++ [flatRowOf 46 2 (.slice dT T.length mT) (edR T)]) ∧ Below B w2 wr) (fun _ iv _ => T.length - (intOf iv).toNat)
    case atStart => exact ⟨0, _, _, [], [], rfl, rfl, by omega, hid rfl, hid ⟨rfl, fun j _ hj => by omega⟩, own2, Below.refl _ _⟩
    case round =>
      clear own2
      obtain ⟨i, d, m, vs, C, rfl, rfl, hi, hvs, hC, own, hb⟩ := hrel
      obtain ⟨wo, rfl⟩ : ∃ y : World, y = wr := ⟨_, rfl⟩
      by_cases hil : i < T.length
      · obtain ⟨e, he⟩ : ∃ e, T[i]? = some e := ⟨_, List.getElem?_eq_getElem hil⟩
        have hen := hTn.out e (List.mem_of_getElem? he)
        have hqo := hq.out wo hb
        have hFT : IsFlat wo (.slice dT T.length mT) 2 (edR T) := hTr2.out wo [] own.right
        obtain ⟨bE, oE, hdT, c0, _⟩ := edge_at hFT (w' := wo) he
        subst hdT
        obtain ⟨e1, e2⟩ := e
        have hSi := hid (fun (u : World) (eu : Ext wo u) => @l6Side_any (T.take i ++ T.drop (i + 1)) T (i : Int) n e1 (.slice (some ⟨bE, oE, none⟩) T.length mT) wo u eu hFT (by omega) hen.1 (fun e => eraseIdx_mem hil) hTn.out)
        have hCs := hid (fun (L : List Int) (hL : SdL (T.take i ++ T.drop (i + 1)) e1 L) => hC.out.snoc he hL)
        have hbE := hid he
        clear he hFT
        have hBo := Nat.le_trans hB2 hb.size
        go_upto_region 8 with fail
        refine region_held_from (w0 := wo) (S := fun u => u.cell? ⟨w.heap.size, 0, none⟩ = some (.slice a1 n c1) ∧ u.cell? ⟨bE, oE + i * 2, none⟩ = some (.int .i64 (e1 : Int))) (by kernel_rfl) (fun u eu => ⟨eu.cell hqo, eu.cell c0⟩) (fun wd ed hHeld0 => ?_)
        refine wpAnyH_take (i := 0) (v := .slice d i m) rfl (by kernel_rfl) (by kernel_rfl) (by kernel_rfl) (fun _ _ _ h => h) (Or.inl ⟨by rfl, by intro wx hx; go_simp⟩) (by assumption) ?_
        try simp only [List.getElem_toArray, List.getElem_cons_zero, Act.put, List.setIfInBounds_toArray, List.set_cons_zero, List.set_cons_succ]
        refine wpAnyH_take (i := 1) (v := .pointer (some ⟨w.heap.size, 0, none⟩)) rfl (by kernel_rfl) (by kernel_rfl) (by kernel_rfl) (fun _ _ _ h => h) (Or.inl ⟨by rfl, by intro wx hx; go_simp⟩) (by assumption) ?_
        try simp only [List.getElem_toArray, List.getElem_cons_succ, List.getElem_cons_zero, Act.put, List.setIfInBounds_toArray, List.set_cons_zero, List.set_cons_succ]
        refine wpAnyH_take (i := 2) (v := .slice a1 n c1) rfl (by kernel_rfl) (by kernel_rfl) (by kernel_rfl) (fun _ _ _ h => h) (Or.inl ⟨by rfl, by intro wx hx; obtain ⟨_, _⟩ := hx; go_simp⟩) (by assumption) ?_
        try simp only [List.getElem_toArray, List.getElem_cons_succ, List.getElem_cons_zero, Act.put, List.setIfInBounds_toArray, List.set_cons_zero, List.set_cons_succ]
        refine wpAnyH_take (i := 3) (v := .int .i64 n) rfl (by kernel_rfl) (by kernel_rfl) (by kernel_rfl) (fun _ _ _ h => h) (Or.inl ⟨by rfl, by intro wx hx; go_simp⟩) (by assumption) ?_
        try simp only [List.getElem_toArray, List.getElem_cons_succ, List.getElem_cons_zero, Act.put, List.setIfInBounds_toArray, List.set_cons_zero, List.set_cons_succ]
        refine wpAnyH_take (i := 4) (v := .slice (some ⟨bE, oE, none⟩) T.length mT) rfl (by kernel_rfl) (by kernel_rfl) (by kernel_rfl) (fun _ _ _ h => h) (Or.inl ⟨by rfl, by intro wx hx; go_simp⟩) (by assumption) ?_
        try simp only [List.getElem_toArray, List.getElem_cons_succ, List.getElem_cons_zero, Act.put, List.setIfInBounds_toArray, List.set_cons_zero, List.set_cons_succ]
        refine wpAnyH_take (i := 5) (v := .int .i64 i) rfl (by kernel_rfl) (by kernel_rfl) (by kernel_rfl) (fun _ _ _ h => h) (Or.inl ⟨by rfl, by intro wx hx; go_simp⟩) (by assumption) ?_
        try simp only [List.getElem_toArray, List.getElem_cons_succ, List.getElem_cons_zero, Act.put, List.setIfInBounds_toArray, List.set_cons_zero, List.set_cons_succ]
        refine wpAnyH_take (i := 6) (v := .slice (some ⟨bE, oE, none⟩) T.length mT) rfl (by kernel_rfl) (by kernel_rfl) (by kernel_rfl) (fun _ _ _ h => h) (Or.inl ⟨by rfl, by intro wx hx; go_simp⟩) (by assumption) ?_
        try simp only [List.getElem_toArray, List.getElem_cons_succ, List.getElem_cons_zero, Act.put, List.setIfInBounds_toArray, List.set_cons_zero, List.set_cons_succ]
        refine wpAnyH_take (i := 7) (v := .int .i64 i) rfl (by kernel_rfl) (by kernel_rfl) (by kernel_rfl) (fun _ _ _ h => h) (Or.inl ⟨by rfl, by intro wx hx; go_simp⟩) (by assumption) ?_
        try simp only [List.getElem_toArray, List.getElem_cons_succ, List.getElem_cons_zero, Act.put, List.setIfInBounds_toArray, List.set_cons_zero, List.set_cons_succ]
        refine wpAnyH_take (i := 8) (v := .pointer (some ⟨bE, oE + i * 2, none⟩)) rfl (by kernel_rfl) (by kernel_rfl) (by kernel_rfl) (fun _ _ _ h => h) (Or.inl ⟨by rfl, by intro wx hx; go_simp⟩) (by assumption) ?_
        try simp only [List.getElem_toArray, List.getElem_cons_succ, List.getElem_cons_zero, Act.put, List.setIfInBounds_toArray, List.set_cons_zero, List.set_cons_succ]
        refine wpAnyH_take (i := 9) (v := .pointer (some ⟨bE, oE + i * 2, none⟩)) rfl (by kernel_rfl) (by kernel_rfl) (by kernel_rfl) (fun _ _ _ h => h) (Or.inl ⟨by rfl, by intro wx hx; go_simp⟩) (by assumption) ?_
        try simp only [List.getElem_toArray, List.getElem_cons_succ, List.getElem_cons_zero, Act.put, List.setIfInBounds_toArray, List.set_cons_zero, List.set_cons_succ]
        refine wpAnyH_take (i := 10) (v := .int .i64 (e1 : Int)) rfl (by kernel_rfl) (by kernel_rfl) (by kernel_rfl) (fun _ _ _ h => h) (Or.inl ⟨by rfl, by intro wx hx; obtain ⟨_, _⟩ := hx; go_simp⟩) (by assumption) ?_
        try simp only [List.getElem_toArray, List.getElem_cons_succ, List.getElem_cons_zero, Act.put, List.setIfInBounds_toArray, List.set_cons_zero, List.set_cons_succ]
        refine wpAnyH_ready (rs := [11]) (by kernel_rfl) (by simp) ?_
        refine AllReadyH.cons rfl (fun K hK => ?_) AllReadyH.nil
        go_simp
        go_at_call 42
        with_reducible refine (hSi.out wd ed).mono ?_
        rintro e w3 ⟨dL, mL, L, rfl, hSd, iL, ownL, e3⟩
        have hC2 := hid (hCs.out L hSd)
        have e03 : Ext wo w3 := Ext.trans ed e3
        have ownd := own.ext (w' := wd) (e := ed)
        have hBd : B ≤ wd.heap.size := Nat.le_trans hBo ed.size
        have own3 := ownd.join ownL (e := e3) hBd
        have hb3 := hb.trans (e03.below.mono hBo)
        have f0 := e03.cell hqo
        have f1 := e03.cell c0
        clear ownL iL hSi hCs own hSd hHeld0 ownd
        obtain ⟨lL, hlL⟩ : ∃ q, q = L.length := ⟨_, rfl⟩
        rw [← hlL] at own3 ⊢
        replace hlL := hid hlL
        go_wp2_with fail
        refine hK.out _ _ ⟨f0, f1⟩ (fun _ => ?_)
        clear hK K
        try simp only [List.getElem_toArray, List.getElem_cons_succ, List.getElem_cons_zero, Act.put, List.setIfInBounds_toArray, List.set_cons_zero, List.set_cons_succ]
        have hB3 := Nat.le_trans hB2 hb3.size
        refine wpAnyH_ready (rs := [12]) (by kernel_rfl) (by simp) ?_
        refine AllReadyH.cons rfl (fun K hK => ?_) AllReadyH.nil
        go_simp
        have o6 := own3.lit 24 1 1 #[.slice dL lL mL] hB3 (by unfold maxLen; omega) rfl
        have e6 : Ext w3 (w3.alloc (.cells #[.slice dL lL mL] 24)) := inferInstance
        have hn6 : (w3.alloc (.cells #[.slice dL lL mL] 24)).cell? ⟨w3.heap.size, 0, none⟩ = some (.slice dL lL mL) := by go_simp
        have b6 := hb3.trans (e6.below.mono hB3)
        refine hK.out _ _ ⟨e6.cell f0, e6.cell f1⟩ (fun _ => ?_)
        clear hK K
        try simp only [List.getElem_toArray, List.getElem_cons_succ, List.getElem_cons_zero, Act.put, List.setIfInBounds_toArray, List.set_cons_zero, List.set_cons_succ]
        have o7 := rw_out (A := []) o6.tail
        rw [hvs.out] at o7
        clear o6 own3 hb3
        generalize w3.alloc (.cells #[.slice dL lL mL] 24) = w6 at *
        generalize w3.heap.size = g6 at *
        have hB6 : B ≤ w6.heap.size := Nat.le_trans hB2 b6.size
        have hi16 : i ≤ 6 := by omega
        refine wpAnyH_ready (rs := [13]) (by kernel_rfl) (by simp) ?_
        refine AllReadyH.cons rfl (fun K hK => ?_) AllReadyH.nil
        refine stp_one rfl (.tmp 24) (.tmp 36) 27 rfl elemInts rfl o7 hB6 (us := [.slice dL lL mL]) rfl rfl ?_ (by intro u hu; simp at hu; subst hu; rfl) (by omega) (by omega) ?_
        · intro jj u hj
          match jj, hj with
          | 0, hj => simp at hj; subst hj; exact hn6
        intro v8 w8 ho8 hb8
        obtain ⟨d8, m8, hv8⟩ := ho8.form
        have hv8' : v8 = .slice d8 (i + 1) m8 := hv8
        subst hv8'
        clear hv8
        have b8 := b6.trans hb8
        rw [← hvs.out] at ho8
        have ho9 := rw_in (A := []) ho8 (by rw [hvs.out, hC.out.1])
        rw [hvs.out] at ho9
        have hFT8 : IsFlat w8 (.slice (some ⟨bE, oE, none⟩) T.length mT) 2 (edR T) := hTr2.out w8 [] (by
          have h := ho9
          simp only [List.nil_append] at h
          exact h.right)
        have hS8 := And.intro (hq.out w8 b8) (show w8.cell? ⟨bE, oE + i * 2, none⟩ = some (.int .i64 (e1 : Int)) from by
          obtain ⟨b', o', h1, g0, _⟩ := edge_at hFT8 (w' := w8) hbE.out
          cases h1
          exact g0)
        refine hK.out _ _ hS8 (fun _ => ?_)
        clear hK K
        try simp only [List.getElem_toArray, List.getElem_cons_succ, List.getElem_cons_zero, Act.put, List.setIfInBounds_toArray, List.set_cons_zero, List.set_cons_succ]
        refine wpAnyH_take (i := 14) (v := .slice d8 (i + 1) m8) rfl (by kernel_rfl) (by kernel_rfl) (by kernel_rfl) (fun _ _ _ h => h) (Or.inl ⟨by rfl, by intro wx hx; go_simp⟩) (by assumption) ?_
        try simp only [List.getElem_toArray, List.getElem_cons_succ, List.getElem_cons_zero, Act.put, List.setIfInBounds_toArray, List.set_cons_zero, List.set_cons_succ]
        refine wpAnyH_done (by kernel_rfl) ?_ _
        have hvs2 := hid (show (vs ++ [Value.slice dL lL mL]).length = i + 1 by rw [List.length_append, hvs.out]; rfl)
        simp only [List.nil_append] at ho9
        clear ho8 o7 hS8 f0 f1 hqo c0
        go_wp2_with fail
        go_roundw
        case rel => exact ⟨i + 1, d8, m8, _, _, rfl, by go_num, by omega, hvs2, hC2, ho9, b8⟩
        case measure => simp [intOf]; omega
      · have hiT : i = T.length := by omega
        have hCi := hid (show CtTo T C T.length by rw [← hiT]; exact hC.out)
        have hOKC := hid (hyes.out C hCi.out.fin)
        have hrows := hCi.out.rows (Nat.le_refl _) (by omega) hTn.out
        have hCl := hC.out.1
        have hRC : IsRows wo (.slice d i m) C := by
          exact own.readsAll (by rw [hvs.out, hCl]) (by unfold ShortRows; omega) (fun r hr => (hrows r hr).1) (fun r hr => (hrows r hr).2)
        have eF := hE2.out wo hb
        replace hiT := hid hiT
        go_wp2_with fail
        refine bodyPost_ret (v := .tuple #[.slice d i m, .bool true]) (by simp [results, Try.results17, go_sem]) rfl ?_
        exact ⟨d, m, C, by rw [hCl], hOKC.out, by rw [hCl]; exact hRC, eF⟩
end Go.Proofs.Ytnlbjbnjjkilhaa
