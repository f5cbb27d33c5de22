/- The spanning tree of the reference, walked: l6Tree. -/
import Derived.Test.YtnlbjbnjjkilhaaTsB
namespace Go.Proofs.Ytnlbjbnjjkilhaa
open Go.RowKit

def smT (D : Nat → Nat → Int) (T : List (Nat × Nat)) : Int := (T.map fun e => D e.1 e.2).sum
theorem smT_snoc (D : Nat → Nat → Int) (T : List (Nat × Nat)) (e : Nat × Nat) : smT D (T ++ [e]) = smT D T + D e.1 e.2 := by
  unfold smT
  rw [List.map_append]
  have : ∀ (l : List Int) (x : Int), (l ++ [x]).sum = l.sum + x := by
    intro l x
    induction l with
    | nil => simp
    | cons a l ih => rw [List.cons_append, List.sum_cons, List.sum_cons, ih]; omega
  exact this _ _
theorem take_snoc {α : Type} {E : List α} {i : Nat} {e : α} (h : E[i]? = some e) : E.take (i + 1) = E.take i ++ [e] := by
  rw [List.take_add_one, h]
  rfl
theorem met_srt {M : List (List Int)} (h : metB M = true) : Srt (edL (cell M) M.length) M.length (cell M) := edL_srt fun u v h1 h2 => tr_pos h (by omega) h2 (by omega)
/-- cells of an edge -/
theorem edge_at {w w' : World} {a : Option Addr} {l c : Nat} {E : List (Nat × Nat)} (h : IsFlat w (.slice a l c) 2 (edR E)) [e : Ext w w'] {i : Nat} {p : Nat × Nat} (hp : E[i]? = some p) :
    ∃ b o, a = some ⟨b, o, none⟩ ∧ w'.cell? ⟨b, o + i * 2, none⟩ = some (.int .i64 (p.1 : Int)) ∧ w'.cell? ⟨b, o + i * 2 + 1, none⟩ = some (.int .i64 (p.2 : Int)) := by
  have hi : i < E.length := by
    rcases Nat.lt_or_ge i E.length with q | q
    · exact q
    · rw [List.getElem?_eq_none q] at hp; cases hp
  obtain ⟨b, o, h1, h2⟩ := h.at (w' := w') (e := e) (j := i) (by rw [edR_len]; exact hi)
  have c0 := h2 0 (by omega)
  have c1 := h2 1 (by omega)
  unfold cell at c0 c1
  rw [(edR_at hp).1] at c0
  rw [(edR_at hp).2] at c1
  exact ⟨b, o, h1, c0, c1⟩
theorem Kr.ends {E T : List (Nat × Nat)} {n i : Nat} (h : Kr (E.take i) T) (hE : ∀ e, e ∈ E → e.1 < n ∧ e.2 < n) : ∀ e, e ∈ T → e.1 < n ∧ e.2 < n := fun e he => hE e (List.mem_of_mem_take (h.sub e he))
/-- whether an edge is taken -/
theorem Kr.with {E T : List (Nat × Nat)} {i : Nat} {e : Nat × Nat} {l : List Int} (h : Kr (E.take i) T) (he : E[i]? = some e) (hl : SdL T e.1 l) : if hasB l e.2 = true then Kr (E.take (i + 1)) T else Kr (E.take (i + 1)) (T ++ [e]) := by
  rw [take_snoc he]
  by_cases c : hasB l e.2 = true
  · rw [if_pos c]
    exact .skip h ((hl.has).1 (hasB_mem c))
  · rw [if_neg c]
    refine .take h fun q => ?_
    have := (hl.has).2 q
    unfold hasB at c
    exact c (by simpa using this)
set_option maxHeartbeats 3200000 in
set_option maxRecDepth 100000 in
theorem l6Tree_any {v : Value} {M : List (List Int)} {w0 w : World} [Ext w0 w] (hm : IsMet w0 v M) (hM : metB M = true) :
    Calls Try.prog 39 #[v] w fun e w' => ∃ d m T, e = .returned (.tuple #[.slice d (T : List (Nat × Nat)).length m, .int .i64 (smT (cell M) T)]) ∧ Kr (edL (cell M) M.length) T ∧
      Own w' w.heap.size [flatRowOf 46 2 (.slice d T.length m) (edR T)] ∧ Ext w w' := by
  have hml := met_len hM
  have hm' := hm
  have hrow := hid (fun x (hx : x < M.length) => tr_row hM hx)
  have hD99 := hid (fun u v (hu : u < M.length) (hv : v < M.length) => (dst_of_met hM).pos u v hu hv)
  have hEn := hid (show ∀ e, e ∈ edL (cell M) M.length → e.1 < M.length ∧ e.2 < M.length from (met_srt hM).lt)
  have hEd := hid (show ∀ u, Ext w0 u → _ from fun u eu => @l6Edges_any v M w0 u eu hm' hM)
  obtain ⟨v1, rfl, hR⟩ := hm
  obtain ⟨a1, c1, rfl, l1⟩ := hR.form
  obtain ⟨n, hn⟩ : ∃ n, n = M.length := ⟨_, rfl⟩
  obtain ⟨D, hD⟩ : ∃ D, D = cell M := ⟨_, rfl⟩
  rw [← hn] at hml hrow hD99 hEn hEd hR ⊢
  rw [← hD] at hD99 hEn hEd ⊢
  generalize hEE : edL D n = E at *
  replace hn := hid hn
  replace hD := hid hD
  replace hEE := hid hEE
  go_enter Try.func39, Try.ntmps39
  go_upto_region 1 with fail
  have ea : Ext w (w.alloc (.cells #[.slice a1 n c1] 29)) := inferInstance
  have qa : (w.alloc (.cells #[.slice a1 n c1] 29)).cell? ⟨w.heap.size, 0, none⟩ = some (.slice a1 n c1) := by go_simp
  have sa : (w.alloc (.cells #[.slice a1 n c1] 29)).heap.size = w.heap.size + 1 := by simp
  generalize w.alloc (.cells #[.slice a1 n c1] 29) = wa at *
  replace sa := hid sa
  have ownb : Own (wa.alloc (.cells #[] 46)) wa.heap.size [flatRowOf 46 2 (.slice (some ⟨wa.heap.size, 0, none⟩) 0 0) (edR [])] :=
    (Own.nil wa wa.heap.size).lit 46 2 0 #[] (Nat.le_refl _) (by unfold maxLen; omega) rfl
  have eb : Ext wa (wa.alloc (.cells #[] 46)) := inferInstance
  have hsb : wa.heap.size ≤ (wa.alloc (.cells #[] 46)).heap.size := eb.size
  obtain ⟨B, hB⟩ : ∃ B, B = wa.heap.size := ⟨_, rfl⟩
  rw [← hB] at ownb hsb
  have hqB : w.heap.size < B := by have := sa.out; omega
  have e0b : Ext w0 (wa.alloc (.cells #[] 46)) := Ext.trans ‹Ext w0 w› (Ext.trans ea eb)
  have ewb : Ext w (wa.alloc (.cells #[] 46)) := Ext.trans ea eb
  have qb := eb.cell qa
  go_wp2_with fail
  with_reducible refine (hEd.out _ e0b).mono ?_
  rintro e w2 ⟨dA, mA, rfl, ownA, hlA, e2⟩
  have own2 := (ownb.join ownA (e := e2) hsb).swap
  have ew2 := Ext.trans ewb e2
  have e02 : Ext w0 w2 := Ext.trans ‹Ext w0 w› ew2
  have q2 := e2.cell qb
  have hB2 : B ≤ w2.heap.size := Nat.le_trans hsb e2.size
  rw [← hB]
  replace hB := hid hB
  clear ownb ownA e0b ewb qb ea qa eb hsb e2
  generalize wa.alloc (.cells #[] 46) = wb at *
  have hlw : w.heap.size ≤ B := by omega
  have hE2 := hid (show ∀ u, Below B w2 u → Ext w u from fun u h => ⟨ew2.below.trans (h.mono hlw)⟩)
  have hE0 := hid (show ∀ u, Below B w2 u → Ext w0 u from fun u h => ⟨e02.below.trans (h.mono (Nat.le_trans (‹Ext w0 w›).size hlw))⟩)
  have hq := hid (show ∀ u, Below B w2 u → u.cell? ⟨w.heap.size, 0, none⟩ = some (.slice a1 n c1) from fun u h => (h.cell (p := ⟨w.heap.size, 0, none⟩) hqB).trans q2)
  have hlAr := hid (fun (u : World) (R : List Row) (h : Own u B (flatRowOf 46 2 (.slice dA E.length mA) (edR E) :: R)) => edges_read h (n := n) (by omega) (by omega) hEn.out)
  clear q2 e02
  go_upto_region 3 with fail
  go_loopw [4, 5, 7] (fun tv sv iv wr => ∃ (i l : Nat) (d : Option Addr) (m : Nat) (T : List (Nat × Nat)) (s : Int), tv = .slice d l m ∧ sv = .int .i64 s ∧ iv = .int .i64 i ∧ i ≤ E.length ∧ l ≤ i ∧ (0 ≤ s ∧ s ≤ 99 * (l : Int)) ∧ Hid (l = T.length) ∧ Hid (s = smT D T) ∧ Hid (Kr (E.take i) T) ∧ Own wr B (flatRowOf 46 2 (.slice d l m) (edR T) :: [flatRowOf 46 2 (.slice dA E.length mA) (edR E)]) ∧ Below B w2 wr) (fun _ _ iv _ => E.length - (intOf iv).toNat)
  case atStart => exact ⟨0, 0, _, _, [], 0, rfl, rfl, rfl, by omega, by omega, by omega, hid rfl, hid rfl, hid .nil, own2, Below.refl _ _⟩
  case round =>
    clear own2
    obtain ⟨i, l, d, m, T, s, rfl, rfl, rfl, hi, hli, hs, hl, hsm, hK, own, hb⟩ := hrel
    obtain ⟨wo, rfl⟩ : ∃ y : World, y = wr := ⟨_, rfl⟩
    have hb0 := hid hb
    by_cases hil : i < E.length
    · obtain ⟨e, he⟩ : ∃ e, E[i]? = some e := ⟨_, List.getElem?_eq_getElem hil⟩
      have hen := hEn.out e (List.mem_of_getElem? he)
      have hTn := hK.out.ends hEn.out
      have hqo := hq.out wo hb
      have hFT : IsFlat wo (.slice d l m) 2 (edR T) := by
        have h := edges_read own (n := n) (by omega) (by have := hl.out; omega) hTn
        exact h
      have hFE : IsFlat wo (.slice dA E.length mA) 2 (edR E) := hlAr.out wo _ own.tail
      obtain ⟨bE, oE, hdA, c0, c1'⟩ := edge_at hFE (w' := wo) he
      subst hdA
      obtain ⟨e1, e2⟩ := e
      have hKw := hid (fun (L : List Int) (hL : SdL T e1 L) => hK.out.with he hL)
      have hSi := hid (fun (u : World) (eu : Ext wo u) => @l6Side_any T T (-1) n e1 (.slice d l m) wo u eu hFT (by omega) hen.1 (fun e => ⟨fun h => by
        obtain ⟨q, hq⟩ := List.mem_iff_getElem?.1 h
        exact ⟨q, hq, by omega⟩, fun ⟨q, hq, _⟩ => List.mem_of_getElem? hq⟩) hTn)
      have hbE : Hid (E[i]? = some (e1, e2)) := hid he
      clear he hFT hFE
      go_upto_region 5 with fail
      refine region_held_from (w0 := wo) (S := fun u => u.cell? ⟨w.heap.size, 0, none⟩ = some (.slice a1 n c1) ∧ u.cell? ⟨bE, oE + i * 2, none⟩ = some (.int .i64 (e1 : Int)) ∧ u.cell? ⟨bE, oE + i * 2 + 1, none⟩ = some (.int .i64 (e2 : Int))) (by kernel_rfl) (fun u eu => ⟨eu.cell hqo, eu.cell c0, eu.cell c1'⟩) (fun wd ed hHeld0 => ?_)
      refine wpAnyH_take (i := 0) (v := .pointer (some ⟨w.heap.size, 0, none⟩)) rfl (by kernel_rfl) (by kernel_rfl) (by kernel_rfl) (fun _ _ _ h => h) (Or.inl ⟨by rfl, by intro wx hx; go_simp⟩) (by assumption) ?_
      try simp only [List.getElem_toArray, List.getElem_cons_zero, Act.put, List.setIfInBounds_toArray, List.set_cons_zero, List.set_cons_succ]
      refine wpAnyH_take (i := 1) (v := .slice a1 n c1) rfl (by kernel_rfl) (by kernel_rfl) (by kernel_rfl) (fun _ _ _ h => h) (Or.inl ⟨by rfl, by intro wx hx; obtain ⟨_, _, _⟩ := hx; go_simp⟩) (by assumption) ?_
      try simp only [List.getElem_toArray, List.getElem_cons_succ, List.getElem_cons_zero, Act.put, List.setIfInBounds_toArray, List.set_cons_zero, List.set_cons_succ]
      refine wpAnyH_take (i := 2) (v := .int .i64 n) rfl (by kernel_rfl) (by kernel_rfl) (by kernel_rfl) (fun _ _ _ h => h) (Or.inl ⟨by rfl, by intro wx hx; go_simp⟩) (by assumption) ?_
      try simp only [List.getElem_toArray, List.getElem_cons_succ, List.getElem_cons_zero, Act.put, List.setIfInBounds_toArray, List.set_cons_zero, List.set_cons_succ]
      refine wpAnyH_take (i := 3) (v := .slice d l m) rfl (by kernel_rfl) (by kernel_rfl) (by kernel_rfl) (fun _ _ _ h => h) (Or.inl ⟨by rfl, by intro wx hx; go_simp⟩) (by assumption) ?_
      try simp only [List.getElem_toArray, List.getElem_cons_succ, List.getElem_cons_zero, Act.put, List.setIfInBounds_toArray, List.set_cons_zero, List.set_cons_succ]
      refine wpAnyH_take (i := 4) (v := .slice (some ⟨bE, oE, none⟩) E.length mA) rfl (by kernel_rfl) (by kernel_rfl) (by kernel_rfl) (fun _ _ _ h => h) (Or.inl ⟨by rfl, by intro wx hx; go_simp⟩) (by assumption) ?_
      try simp only [List.getElem_toArray, List.getElem_cons_succ, List.getElem_cons_zero, Act.put, List.setIfInBounds_toArray, List.set_cons_zero, List.set_cons_succ]
      refine wpAnyH_take (i := 5) (v := .int .i64 i) rfl (by kernel_rfl) (by kernel_rfl) (by kernel_rfl) (fun _ _ _ h => h) (Or.inl ⟨by rfl, by intro wx hx; go_simp⟩) (by assumption) ?_
      try simp only [List.getElem_toArray, List.getElem_cons_succ, List.getElem_cons_zero, Act.put, List.setIfInBounds_toArray, List.set_cons_zero, List.set_cons_succ]
      refine wpAnyH_take (i := 6) (v := .pointer (some ⟨bE, oE + i * 2, none⟩)) rfl (by kernel_rfl) (by kernel_rfl) (by kernel_rfl) (fun _ _ _ h => h) (Or.inl ⟨by rfl, by intro wx hx; go_simp⟩) (by assumption) ?_
      try simp only [List.getElem_toArray, List.getElem_cons_succ, List.getElem_cons_zero, Act.put, List.setIfInBounds_toArray, List.set_cons_zero, List.set_cons_succ]
      refine wpAnyH_take (i := 7) (v := .pointer (some ⟨bE, oE + i * 2, none⟩)) rfl (by kernel_rfl) (by kernel_rfl) (by kernel_rfl) (fun _ _ _ h => h) (Or.inl ⟨by rfl, by intro wx hx; go_simp⟩) (by assumption) ?_
      try simp only [List.getElem_toArray, List.getElem_cons_succ, List.getElem_cons_zero, Act.put, List.setIfInBounds_toArray, List.set_cons_zero, List.set_cons_succ]
      refine wpAnyH_take (i := 8) (v := .int .i64 (e1 : Int)) rfl (by kernel_rfl) (by kernel_rfl) (by kernel_rfl) (fun _ _ _ h => h) (Or.inl ⟨by rfl, by intro wx hx; obtain ⟨_, _, _⟩ := hx; go_simp⟩) (by assumption) ?_
      try simp only [List.getElem_toArray, List.getElem_cons_succ, List.getElem_cons_zero, Act.put, List.setIfInBounds_toArray, List.set_cons_zero, List.set_cons_succ]
      refine wpAnyH_take (i := 10) (v := .slice (some ⟨bE, oE, none⟩) E.length mA) rfl (by kernel_rfl) (by kernel_rfl) (by kernel_rfl) (fun _ _ _ h => h) (Or.inl ⟨by rfl, by intro wx hx; go_simp⟩) (by assumption) ?_
      try simp only [List.getElem_toArray, List.getElem_cons_succ, List.getElem_cons_zero, Act.put, List.setIfInBounds_toArray, List.set_cons_zero, List.set_cons_succ]
      refine wpAnyH_take (i := 11) (v := .int .i64 i) rfl (by kernel_rfl) (by kernel_rfl) (by kernel_rfl) (fun _ _ _ h => h) (Or.inl ⟨by rfl, by intro wx hx; go_simp⟩) (by assumption) ?_
      try simp only [List.getElem_toArray, List.getElem_cons_succ, List.getElem_cons_zero, Act.put, List.setIfInBounds_toArray, List.set_cons_zero, List.set_cons_succ]
      refine wpAnyH_take (i := 12) (v := .pointer (some ⟨bE, oE + i * 2, none⟩)) rfl (by kernel_rfl) (by kernel_rfl) (by kernel_rfl) (fun _ _ _ h => h) (Or.inl ⟨by rfl, by intro wx hx; go_simp⟩) (by assumption) ?_
      try simp only [List.getElem_toArray, List.getElem_cons_succ, List.getElem_cons_zero, Act.put, List.setIfInBounds_toArray, List.set_cons_zero, List.set_cons_succ]
      refine wpAnyH_take (i := 13) (v := .pointer (some ⟨bE, oE + i * 2 + 1, none⟩)) rfl (by kernel_rfl) (by kernel_rfl) (by kernel_rfl) (fun _ _ _ h => h) (Or.inl ⟨by rfl, by intro wx hx; go_simp⟩) (by assumption) ?_
      try simp only [List.getElem_toArray, List.getElem_cons_succ, List.getElem_cons_zero, Act.put, List.setIfInBounds_toArray, List.set_cons_zero, List.set_cons_succ]
      refine wpAnyH_take (i := 14) (v := .int .i64 (e2 : Int)) rfl (by kernel_rfl) (by kernel_rfl) (by kernel_rfl) (fun _ _ _ h => h) (Or.inl ⟨by rfl, by intro wx hx; obtain ⟨_, _, _⟩ := hx; go_simp⟩) (by assumption) ?_
      try simp only [List.getElem_toArray, List.getElem_cons_succ, List.getElem_cons_zero, Act.put, List.setIfInBounds_toArray, List.set_cons_zero, List.set_cons_succ]
      refine wpAnyH_ready (rs := [9]) (by kernel_rfl) (by simp) ?_
      refine AllReadyH.cons rfl (fun K hK => ?_) AllReadyH.nil
      go_simp
      go_at_call 42
      with_reducible refine (hSi.out wd ed).mono ?_
      rintro e w3 ⟨dL, mL, L, rfl, hSd, iL, ownL, e3⟩
      have e03 : Ext wo w3 := Ext.trans ed e3
      have hKc := hid (hKw.out L hSd)
      have hHs := hid (fun (y : Int) => @l1Has_any (.slice dL L.length mL) L y w3 w3 (Ext.refl _) iL)
      have own3 := own.ext (w' := w3) (e := e03)
      have hb3 := hb.trans (e03.below.mono (Nat.le_trans hB2 hb.size))
      obtain ⟨lL, hlL⟩ : ∃ q, q = L.length := ⟨_, rfl⟩
      rw [← hlL] at hHs ⊢
      replace hlL := hid hlL
      clear ownL iL hSi hKw hb own hSd hHeld0
      have f0 := e03.cell hqo
      have f1 := e03.cell c0
      have f2 := e03.cell c1'
      go_wp2_with fail
      refine hK.out _ _ ⟨f0, f1, f2⟩ (fun _ => ?_)
      clear hK K
      try simp only [List.getElem_toArray, List.getElem_cons_succ, List.getElem_cons_zero, Act.put, List.setIfInBounds_toArray, List.set_cons_zero, List.set_cons_succ]
      refine wpAnyH_ready (rs := [15]) (by kernel_rfl) (by simp) ?_
      refine AllReadyH.cons rfl (fun K hK => ?_) AllReadyH.nil
      go_simp
      go_at_call 63
      with_reducible refine (hHs.out e2).mono ?_
      cases hh : hasB L e2 with
      | true =>
        have hK2 := hid (show Kr (E.take (i + 1)) T by have := hKc.out; simp only [hh, if_true] at this; exact this)
        replace hh := hid hh
        rintro e w4 ⟨rfl, rfl⟩
        go_wp2_with fail
        refine hK.out _ _ ⟨f0, f1, f2⟩ (fun _ => ?_)
        clear hK K
        try simp only [List.getElem_toArray, List.getElem_cons_succ, List.getElem_cons_zero, Act.put, List.setIfInBounds_toArray, List.set_cons_zero, List.set_cons_succ]
        refine wpAnyH_take (i := 16) (v := .bool false) rfl (by kernel_rfl) (by kernel_rfl) (by kernel_rfl) (fun _ _ _ h => h) (Or.inl ⟨by rfl, by intro wx hx; go_simp⟩) (by assumption) ?_
        try simp only [List.getElem_toArray, List.getElem_cons_succ, List.getElem_cons_zero, Act.put, List.setIfInBounds_toArray, List.set_cons_zero, List.set_cons_succ]
        refine wpAnyH_done (by kernel_rfl) ?_ _
        go_wp2_with fail
        go_roundw
        case rel => exact ⟨i + 1, l, d, m, T, s, rfl, rfl, by go_num, by omega, by omega, hs, hl, hsm, hK2, own3, hb3⟩
        case measure => simp [intOf]; omega
      | false =>
        have hK2 := hid (show Kr (E.take (i + 1)) (T ++ [(e1, e2)]) by have := hKc.out; simp only [hh, Bool.false_eq_true, if_false] at this; exact this)
        replace hh := hid hh
        rintro e w4 ⟨rfl, rfl⟩
        go_wp2_with fail
        refine hK.out _ _ ⟨f0, f1, f2⟩ (fun _ => ?_)
        clear hK K
        try simp only [List.getElem_toArray, List.getElem_cons_succ, List.getElem_cons_zero, Act.put, List.setIfInBounds_toArray, List.set_cons_zero, List.set_cons_succ]
        refine wpAnyH_take (i := 16) (v := .bool true) rfl (by kernel_rfl) (by kernel_rfl) (by kernel_rfl) (fun _ _ _ h => h) (Or.inl ⟨by rfl, by intro wx hx; go_simp⟩) (by assumption) ?_
        try simp only [List.getElem_toArray, List.getElem_cons_succ, List.getElem_cons_zero, Act.put, List.setIfInBounds_toArray, List.set_cons_zero, List.set_cons_succ]
        refine wpAnyH_done (by kernel_rfl) ?_ _
        have hB3 := Nat.le_trans hB2 hb3.size
        have ownA := edges_row own3 hl.out
        have hDb := hid (hD99.out e1 e2 hen.1 hen.2)
        have hl16 : l ≤ 100000 := by omega
        go_upto_region 7 with (at_builtin; refine wpList_append1z rfl _ _ _ rfl elemPair rfl ownA hB3 (us := [.int .i64 (e1 : Int), .int .i64 (e2 : Int)]) rfl rfl (by intro u hu; simp at hu; rcases hu with rfl | rfl <;> rfl) (by omega) (by omega) ?_; intro v1 w5 ho hb5; obtain ⟨vd, vm, hv1⟩ := ho.form; (obtain rfl : v1 = .slice vd (l + 1) vm := hv1))
        have own5 := edges_snoc ho hl.out
        have hbl5 := hb3.trans hb5
        have q5 := hq.out w5 hbl5
        obtain ⟨bM, oM, dr, mr, ha1, hcr, hir, _⟩ := hR.at (w' := w5) (e := hE0.out w5 hbl5) (k := e1) (by rw [← hn.out]; exact hen.1)
        subst ha1
        rw [hrow.out e1 hen.1] at hcr hir
        obtain ⟨bd, od, hda, hcy⟩ := hir.at (w' := w5) (e := hE0.out w5 hbl5) (k := e2) (by rw [hrow.out e1 hen.1]; exact hen.2)
        subst hda
        have hsn := hid (smT_snoc D T (e1, e2))
        have hDv := hid (show D e1 e2 = nth (row M e1) e2 by rw [hD.out]; rfl)
        have hdb := hDb.out
        rw [hDv.out] at hdb
        generalize nth (row M e1) e2 = dv at *
        obtain ⟨b', o', h1, g0, g1⟩ := edge_at (hlAr.out w5 _ own5.tail) (w' := w5) hbE.out
        cases h1
        clear ho ownA own3 hb3 f0 f1 f2 hqo c0 c1' hb5
        have hen1 := hen.1
        have hen2 := hen.2
        go_upto_region 4 with (go_quiet (fail))
        have e6 : Ext w5 (w5.drewN nq) := inferInstance
        have own6 := own5.ext (w' := w5.drewN nq) (e := e6)
        have hb6 := hbl5.trans (e6.below.mono (Nat.le_trans hB2 hbl5.size))
        generalize w5.drewN nq = w6 at *
        go_wp2_with fail
        go_roundw
        case rel => exact ⟨i + 1, l + 1, vd, vm, T ++ [(e1, e2)], s + dv, rfl, rfl, by go_num, by omega, by omega, by omega, hid (by rw [List.length_append, ← hl.out]; rfl), hid (by rw [hsn.out, ← hsm.out, hDv.out]), hK2, own6, hb6⟩
        case measure => simp [intOf]; omega
    · have hiE : i = E.length := by omega
      have eF := hE2.out wo hb
      have hKr := hid (show Kr E T by have := hK.out; rw [hiE, List.take_length] at this; exact this)
      have own9 := (own.sub (S := [flatRowOf 46 2 (.slice d l m) (edR T)]) (by simp)).mono hlw
      replace hiE := hid hiE
      go_wp2_with fail
      refine bodyPost_ret (v := .tuple #[.slice d l m, .int .i64 s]) (by simp [results, Try.results39, go_sem]) rfl ?_
      exact ⟨d, m, T, by rw [hl.out, hsm.out], hKr.out, by rw [hl.out] at own9; exact own9, eF⟩
end Go.Proofs.Ytnlbjbnjjkilhaa
