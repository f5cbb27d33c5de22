/- The reference's list walked: ChainsOf. -/
import Derived.Test.YtllfchcocgdcjaaGreatFwG
import Derived.Test.YtllfchcocgdcjaaGreatRzW
import Derived.Test.YtllfchcocgdcjaaGreatGrG
namespace Go.Proofs.YtllfchcocgdcjaaGreat
open Go.RowKit

theorem rent_hi {k n m : Nat} {c : Nat → Nat → Int} {f : Nat → Nat} {p r : Nat → Int} {H : Int} (hf : Mtc (Al k) n m f) (hc : Cert (Al k) c n m f p r) (h0 : 0 ≤ H) (hp : ∀ i, i < n → p i ≤ H) (hcn : ∀ i l, i < n → alB k i l = true → 0 ≤ c i l) : ∀ l, l < m → 0 ≤ r l ∧ r l ≤ H := by
  intro l hl
  refine ⟨hc.1.1 l hl, ?_⟩
  by_cases h : ∃ i, i < n ∧ f i = l
  · obtain ⟨i, hi, rfl⟩ := h
    have h1 := hc.2.1 i hi
    have h2 := hp i hi
    have h3 := hcn i (f i) hi (hf.1 i hi).2
    omega
  · rw [hc.2.2 l hl (fun i hi e => h ⟨i, hi, e⟩)]
    exact h0
theorem Own.head1 {w : World} {B : Nat} {r : Row} {R : List Row} (h : Own w B (r :: R)) : Own w B [r] := h.sub (by simp)
theorem step_appI {P : Program} {ops : Array Oper} {o : Oper} {a : Act} {w : World} {K : Act → World → Prop} {Q : Exit → Act → World → Prop} {E0 : Prop} (hw : Region.wanted o (yielded ops a.tmps) = true) (s x : Operand) (t : TypeId)
    (ho : o.op = .call { callee := .builtin .append, args := #[s, x], argTypes := #[t, t] })
    {e bytes : Nat} {zv : Value} (E : Elem P t e zv 1 bytes) {B : Nat} {R : List Row} {v : Value} {n : Nat} {cs : List Value} (hs : a.eval s = v)
    (own : Own w B (⟨e, 1, v, n, cs⟩ :: R)) (hB : B ≤ w.heap.size) {g : Nat} {u : Value}
    (hx : a.eval x = .slice (some ⟨g, 0, none⟩) 1 1) (hu : w.cell? ⟨g, 0, none⟩ = some u) (h1 : u.oneCell' = true) (h63 : n ≤ 17592186044415) (hb16 : (n + 1) * bytes ≤ 140737488355328)
    (h : ∀ v' w', Own w' B (⟨e, 1, v', n + 1, cs ++ [u]⟩ :: R) → Below B w w' → K (a.put o.dst v') w') :
    if Region.wanted o (yielded ops a.tmps) = true then Oper.wp P o a w K Q else E0 := by
  rw [if_pos hw]
  have hn2 : ∀ j y, ([u] : List Value)[j]? = some y → w.cell? ((⟨g, 0, none⟩ : Addr).add j) = some y := by
    intro j y hj
    match j, hj with
    | 0, hj =>
      simp at hj; subst hj
      simpa [Addr.add] using hu
  obtain ⟨v', w', hr, h2, h3⟩ := run_append_Own (P := P) (ty := o.type) E own hB (m := 1) (c := 1) (by simp) hn2 (by intro y hy; simp at hy; subst hy; exact h1) (by unfold maxLen; omega) hb16
  unfold Oper.wp execOp
  simp only [ho, resolve, invoke, builtin, Sem.run_bind, Sem.run_pure, Result.andThen_ok, List.map_toArray, List.map_cons, List.map_nil, hs, hx]
  rw [hr]
  exact h v' w' h2 h3
/-- whether there is a list of chains -/
def chB (M : List (List Int)) (a X : List Int) : Bool := srvB M a X && decide (X.length ≤ 24)
/-- what the list is -/
def ChsOk (M : List (List Int)) (a X L : List Int) : Prop :=
  if chB M a X = true then Chs a.length (flC M a X) X.length (a.length + X.length) L X.length else L = []
theorem ChsOk.no {M : List (List Int)} {a X : List Int} (h : chB M a X = false) : ChsOk M a X [] := by
  unfold ChsOk
  rw [h]
  rfl
theorem ChsOk.yes {M : List (List Int)} {a X L : List Int} (h : chB M a X = true) (hL : Chs a.length (flC M a X) X.length (a.length + X.length) L X.length) : ChsOk M a X L := by
  unfold ChsOk
  rw [if_pos h]
  exact hL
theorem ChsOk.uniq {M : List (List Int)} {a X L L' : List Int} (h : ChsOk M a X L) (h' : ChsOk M a X L') : L = L' := by
  unfold ChsOk at h h'
  by_cases hc : chB M a X = true
  · rw [if_pos hc] at h h'
    exact h.uniq h'
  · rw [if_neg hc] at h h'
    rw [h, h']
def CsPost (M : List (List Int)) (a X : List Int) (w : World) (e : Ending) (w' : World) : Prop :=
  ∃ d cp L, e = .returned (.tuple #[.slice d L.length cp, .bool (chB M a X)]) ∧ IsInts w' (.slice d L.length cp) L ∧ ChsOk M a X L ∧ Ext w w'
set_option maxHeartbeats 3200000 in
set_option maxRecDepth 100000 in
theorem specCs_any {v va vX : Value} {M : List (List Int)} {a X : List Int} {w0 w : World} [Ext w0 w] (hm : IsMet w0 v M) (ha : IsInts w0 va a) (hXi : IsInts w0 vX X) :
    Calls Tryz.prog 11 #[v, va, vX] w (CsPost M a X w) := by
  have hm' := hm
  have ha' := ha
  have hX' := hXi
  have hFl := hid (fun (hs : srvB M a X = true) => show ∀ u, Ext w0 u → Calls Tryz.prog 26 #[v, va, vX] u (FlowPost a.length (flC M a X) X.length (a.length + X.length) u) from fun u eu => l7Flow_any (w0 := w0) (w := u) hm' ha' hX' hs)
  have hRi := hid (fun (hs : srvB M a X = true) => show ∀ u, Ext w0 u → ∀ vb f p q, IsInts u vb (lsN X.length f) → FlowOk a.length (flC M a X) X.length (a.length + X.length) f p q → Calls Tryz.prog 29 #[v, va, vX, vb] u (RisePost a.length (flC M a X) X.length (a.length + X.length) f u) from fun u eu vb f p q hb hF => l7Rise_any (w0 := u) (w := u) (hm'.ext (e := eu)) (ha'.ext (e := eu)) (hX'.ext (e := eu)) hb hs hF)
  obtain ⟨v1, rfl, hR⟩ := hm
  obtain ⟨a1, c1, rfl, l1⟩ := hR.form
  obtain ⟨da, ma, rfl, la⟩ := ha.form
  obtain ⟨dx, mx, rfl, lx⟩ := hXi.form
  obtain ⟨cb, hcb⟩ : ∃ b, b = chB M a X := ⟨_, rfl⟩
  obtain ⟨OK, hOK⟩ : ∃ P, P = ChsOk M a X := ⟨_, rfl⟩
  unfold CsPost
  rw [← hcb, ← hOK]
  replace hcb := hid hcb
  replace hOK := hid hOK
  go_enter Tryz.func11, Tryz.ntmps11
  go_upto_region 1 with fail
  have e1 : Ext w (w.alloc (.cells #[.slice a1 M.length c1] 26)) := inferInstance
  have x0 : (w.alloc (.cells #[.slice a1 M.length c1] 26)).cell? ⟨w.heap.size, 0, none⟩ = some (.slice a1 M.length c1) := by go_simp
  have hbx : ∃ q, q = w.heap.size := ⟨_, rfl⟩
  obtain ⟨bx, hbx⟩ := hbx
  rw [← hbx] at x0 ⊢
  generalize w.alloc (.cells #[.slice a1 M.length c1] 26) = w1 at *
  replace hbx := hid hbx
  have e01 : Ext w0 w1 := Ext.trans ‹Ext w0 w› e1
  obtain ⟨B, hB⟩ : ∃ b, b = w1.heap.size := ⟨_, rfl⟩
  have ownZ : Own (w1.alloc (.cells #[] 3)) B [intRowOf 3 (.slice (some ⟨w1.heap.size, 0, none⟩) 0 0) []] := by
    rw [hB]
    exact (Own.nil w1 w1.heap.size).lit 3 1 0 #[] (Nat.le_refl _) (by unfold maxLen; omega) rfl
  have eZ : Ext w1 (w1.alloc (.cells #[] 3)) := inferInstance
  have hBz : B ≤ (w1.alloc (.cells #[] 3)).heap.size := by rw [hB]; simp
  have xZ := eZ.cell x0
  have e0Z : Ext w0 (w1.alloc (.cells #[] 3)) := Ext.trans e01 eZ
  have eA : Ext w (w1.alloc (.cells #[] 3)) := Ext.trans e1 eZ
  have hE := hid (show ∀ u, Below B w1 u → Ext w1 u from fun u h => ⟨by rw [← hB]; exact h⟩)
  have hSb := hid (show ∀ u, Ext w1 u → Ext w0 u ∧ Ext w u ∧ u.cell? ⟨bx, 0, none⟩ = some (.slice a1 M.length c1) from fun u e => ⟨Ext.trans e01 e, Ext.trans e1 e, e.cell x0⟩)
  go_upto_region 2 with fail
  clear e1 e01 x0
  have hEb := hid (show ∀ u, Ext w1 u → Below B w1 u from fun u e => by rw [hB]; exact e.below)
  replace hB := hid hB
  generalize w1.alloc (.cells #[] 3) = wz at *
  generalize w1.heap.size = gz at *
  have iZ : IsInts wz (.slice (some ⟨gz, 0, none⟩) 0 0) [] := ownZ.reads (by unfold Short; simp) (fun x hx => by cases hx)
  cases hM : metB M with
  | false =>
    have hs := hid (show srvB M a X = false by rw [srvB, hM]; rfl)
    have hcf := hid (show cb = false by rw [hcb.out, chB, hs.out]; rfl)
    have hno := hid (show OK [] by rw [hOK.out]; exact ChsOk.no (by rw [chB, hs.out]; rfl))
    replace hM := hid hM
    go_wp2_with fail
    with_reducible refine (l6Good_any (w0 := w0) hm').mono ?_
    rw [hM.out]
    rintro e w2 ⟨rfl, e2⟩
    go_wp2_with fail
    refine bodyPost_ret (v := .tuple #[.slice (some ⟨gz, 0, none⟩) 0 0, .bool false]) (by simp [results, Tryz.results11, go_sem]) rfl ?_
    exact ⟨_, 0, [], by rw [hcf.out]; rfl, iZ.ext (e := e2), hno.out, Ext.trans eA e2⟩
  | true =>
    replace hM := hid hM
    cases hs : srvB M a X with
    | false =>
      have hcf := hid (show cb = false by rw [hcb.out, chB, hs]; rfl)
      have hno := hid (show OK [] by rw [hOK.out]; exact ChsOk.no (by rw [chB, hs]; rfl))
      replace hs := hid hs
      go_wp2_with fail
      with_reducible refine (l6Good_any (w0 := w0) hm').mono ?_
      rw [hM.out]
      rintro e w2 ⟨rfl, e2⟩
      have x2 := e2.cell xZ
      have e02 : Ext w0 w2 := Ext.trans e0Z e2
      go_wp2_with fail
      with_reducible refine (l6Start_any (w0 := w0) (w := w2) hm' ha' hX').mono ?_
      rw [hs.out]
      rintro e w3 ⟨rfl, e3⟩
      go_wp2_with fail
      refine bodyPost_ret (v := .tuple #[.slice (some ⟨gz, 0, none⟩) 0 0, .bool false]) (by simp [results, Tryz.results11, go_sem]) rfl ?_
      exact ⟨_, 0, [], by rw [hcf.out]; rfl, iZ.ext (e := Ext.trans e2 e3), hno.out, Ext.trans eA (Ext.trans e2 e3)⟩
    | true =>
      have hXl := (srv_pts hs).2.2.2.2
      have hal := (srv_pts hs).2.1
      have hs2 := hid hs
      clear hs
      by_cases h24 : X.length ≤ 24
      · have hct := hid (show cb = true by rw [hcb.out, chB, hs2.out, decide_eq_true h24]; rfl)
        have h24' : ¬ (24 : Int) < (X.length : Int) := by omega
        have hyes := hid (fun L (h : Chs a.length (flC M a X) X.length (a.length + X.length) L X.length) => show OK L by rw [hOK.out]; exact ChsOk.yes (by rw [← hcb.out]; exact hct.out) h)
        go_wp2_with fail
        with_reducible refine (l6Good_any (w0 := w0) hm').mono ?_
        rw [hM.out]
        rintro e w2 ⟨rfl, e2⟩
        have x2 := e2.cell xZ
        have e02 : Ext w0 w2 := Ext.trans e0Z e2
        go_wp2_with fail
        with_reducible refine (l6Start_any (w0 := w0) (w := w2) hm' ha' hX').mono ?_
        rw [hs2.out]
        rintro e w3 ⟨rfl, e3⟩
        have x3 := e3.cell x2
        have e03 : Ext w0 w3 := Ext.trans e02 e3
        have ez3 : Ext wz w3 := Ext.trans e2 e3
        go_upto_region 4 with fail
        have hSx := hid (show ∀ u, Ext w3 u → u.cell? ⟨bx, 0, none⟩ = some (.slice a1 M.length c1) from fun u e => e.cell x3)
        refine region_held_from (w0 := w3) (S := fun u => u.cell? ⟨bx, 0, none⟩ = some (.slice a1 M.length c1)) (by kernel_rfl) hSx.out (fun wd ed hHeld0 => ?_)
        clear x3 x2
        refine wpAnyH_take (i := 0) (v := .agg #[.slice a1 M.length c1]) rfl (by kernel_rfl) (by kernel_rfl) (by kernel_rfl) (fun _ _ _ h => h) (Or.inl ⟨by rfl, by intro wx hx; go_simp⟩) (by assumption) ?_
        try simp only [List.getElem_toArray, List.getElem_cons_zero, Act.put, List.setIfInBounds_toArray, List.set_cons_zero, List.set_cons_succ]
        refine wpAnyH_take (i := 1) (v := .slice da a.length ma) rfl (by kernel_rfl) (by kernel_rfl) (by kernel_rfl) (fun _ _ _ h => h) (Or.inl ⟨by rfl, by intro wx hx; go_simp⟩) (by assumption) ?_
        try simp only [List.getElem_toArray, List.getElem_cons_succ, List.getElem_cons_zero, Act.put, List.setIfInBounds_toArray, List.set_cons_zero, List.set_cons_succ]
        refine wpAnyH_take (i := 2) (v := .slice dx X.length mx) rfl (by kernel_rfl) (by kernel_rfl) (by kernel_rfl) (fun _ _ _ h => h) (Or.inl ⟨by rfl, by intro wx hx; go_simp⟩) (by assumption) ?_
        try simp only [List.getElem_toArray, List.getElem_cons_succ, List.getElem_cons_zero, Act.put, List.setIfInBounds_toArray, List.set_cons_zero, List.set_cons_succ]
        refine wpAnyH_take (i := 3) (v := .agg #[.slice a1 M.length c1]) rfl (by kernel_rfl) (by kernel_rfl) (by kernel_rfl) (fun _ _ _ h => h) (Or.inl ⟨by rfl, by intro wx hx; go_simp⟩) (by assumption) ?_
        try simp only [List.getElem_toArray, List.getElem_cons_succ, List.getElem_cons_zero, Act.put, List.setIfInBounds_toArray, List.set_cons_zero, List.set_cons_succ]
        refine wpAnyH_take (i := 4) (v := .slice da a.length ma) rfl (by kernel_rfl) (by kernel_rfl) (by kernel_rfl) (fun _ _ _ h => h) (Or.inl ⟨by rfl, by intro wx hx; go_simp⟩) (by assumption) ?_
        try simp only [List.getElem_toArray, List.getElem_cons_succ, List.getElem_cons_zero, Act.put, List.setIfInBounds_toArray, List.set_cons_zero, List.set_cons_succ]
        refine wpAnyH_take (i := 5) (v := .slice dx X.length mx) rfl (by kernel_rfl) (by kernel_rfl) (by kernel_rfl) (fun _ _ _ h => h) (Or.inl ⟨by rfl, by intro wx hx; go_simp⟩) (by assumption) ?_
        try simp only [List.getElem_toArray, List.getElem_cons_succ, List.getElem_cons_zero, Act.put, List.setIfInBounds_toArray, List.set_cons_zero, List.set_cons_succ]
        refine wpAnyH_ready (rs := [6]) (by kernel_rfl) (by simp) ?_
        refine AllReadyH.cons rfl (fun K hK => ?_) AllReadyH.nil
        go_simp
        have e0d : Ext w0 wd := Ext.trans e03 ed
        go_at_call 26
        with_reducible refine (hFl.out hs2.out wd e0d).mono ?_
        rintro e w5 ⟨d5, n5, g5, p5, q5, rfl, h5, hF5, e5⟩
        have e35 : Ext w3 w5 := Ext.trans ed e5
        have hRc := hid (hRi.out hs2.out w5 (Ext.trans e03 e35) _ g5 p5 q5 h5 hF5)
        have hM5 := hid hF5.1
        clear hF5 h5 hRi hFl
        go_wp2_with fail
        refine hK.out _ _ (hSx.out w5 e35) (fun _ => ?_)
        clear hK K
        try simp only [List.getElem_toArray, List.getElem_cons_succ, List.getElem_cons_zero, Act.put, List.setIfInBounds_toArray, List.set_cons_zero, List.set_cons_succ]
        refine wpAnyH_ready (rs := [7]) (by kernel_rfl) (by simp) ?_
        refine AllReadyH.cons rfl (fun K hK => ?_) AllReadyH.nil
        go_simp
        go_at_call 29
        with_reducible refine hRc.out.mono ?_
        rintro e w6 ⟨gp, gr, pr, r, rfl, own6, hpb, hLow, hCt, e6⟩
        have e36 : Ext w3 w6 := Ext.trans e35 e6
        have ez6 : Ext wz w6 := Ext.trans ez3 e36
        have e06 : Ext w0 w6 := Ext.trans e0Z ez6
        clear hLow
        clear hRc
        have hbest := hid (fun g' hg' => hCt.opt hM5.out (g := g') hg')
        have hrb := rent_hi hM5.out hCt (by omega) (fun i hi => (hpb i hi).2) (fun i l hi h => (srv_cost hs2.out hi h).1)
        replace hCt := hid hCt
        obtain ⟨R2, hR2⟩ : ∃ R2, R2 = [iA gr (a.length + X.length) (a.length + X.length) r, iA gp X.length X.length pr] := ⟨_, rfl⟩
        have ez5 : Ext wz w5 := Ext.trans ez3 e35
        have own0 : Own w6 B (intRowOf 3 (.slice (some ⟨gz, 0, none⟩) 0 0) [] :: R2) := by
          rw [hR2]
          exact ((ownZ.ext (e := ez5)).join own6 (e := e6) (Nat.le_trans hBz ez5.size)).swap
        have hPR := hid (show ∀ u, Own u B R2 → IsInts u (.slice (some ⟨gp, 0, none⟩) X.length X.length) ((List.range X.length).map pr) ∧ IsInts u (.slice (some ⟨gr, 0, none⟩) (a.length + X.length) (a.length + X.length)) ((List.range (a.length + X.length)).map r) from fun u h => by
          rw [hR2] at h
          refine ⟨?_, ?_⟩
          · have h := h.tail
            rw [iA_row] at h
            exact h.reads (by simp; unfold Short; omega) (fun x hx => by
              obtain ⟨t, ht, rfl⟩ := List.mem_map.1 hx
              have := hpb t (List.mem_range.1 ht)
              unfold I64; omega)
          · have h := h.sub (S := [iA gr (a.length + X.length) (a.length + X.length) r]) (by simp)
            rw [iA_row] at h
            exact h.reads (by simp; unfold Short; omega) (fun x hx => by
              obtain ⟨t, ht, rfl⟩ := List.mem_map.1 hx
              have := hrb t (List.mem_range.1 ht)
              unfold I64; omega))
        have hTi := hid (fun (u : World) (e : Ext w0 u) (hPi : IsInts u (.slice (some ⟨gp, 0, none⟩) X.length X.length) ((List.range X.length).map pr)) (hRi : IsInts u (.slice (some ⟨gr, 0, none⟩) (a.length + X.length) (a.length + X.length)) ((List.range (a.length + X.length)).map r)) (l i : Nat) (hi : i < X.length) (hl : l < a.length + X.length) => @l7Tight_any (.agg #[.slice a1 M.length c1]) (.slice da a.length ma) (.slice dx X.length mx) (.slice (some ⟨gp, 0, none⟩) X.length X.length) (.slice (some ⟨gr, 0, none⟩) (a.length + X.length) (a.length + X.length)) M a X pr r l i u u (Ext.refl u) (hm'.ext (e := e)) (ha'.ext (e := e)) (hX'.ext (e := e)) hPi hRi hs2.out hpb hrb hi hl)
        have hGo := hid (fun (u : World) (e : Ext w0 u) (hPi : IsInts u (.slice (some ⟨gp, 0, none⟩) X.length X.length) ((List.range X.length).map pr)) (hRi : IsInts u (.slice (some ⟨gr, 0, none⟩) (a.length + X.length) (a.length + X.length)) ((List.range (a.length + X.length)).map r)) (vb : Value) (L : List Int) (hL : IsInts u vb L) (h1 : 1 ≤ X.length) => @l7Goes_any (.agg #[.slice a1 M.length c1]) (.slice da a.length ma) (.slice dx X.length mx) (.slice (some ⟨gp, 0, none⟩) X.length X.length) (.slice (some ⟨gr, 0, none⟩) (a.length + X.length) (a.length + X.length)) vb M a X L pr r u u (Ext.refl u) (hm'.ext (e := e)) (ha'.ext (e := e)) (hX'.ext (e := e)) hPi hRi hL hs2.out hpb hrb h1)
        go_wp2_with fail
        refine hK.out _ _ (hSx.out w6 e36) (fun _ => ?_)
        clear hK K
        try simp only [List.getElem_toArray, List.getElem_cons_succ, List.getElem_cons_zero, Act.put, List.setIfInBounds_toArray, List.set_cons_zero, List.set_cons_succ]
        refine wpAnyH_take (i := 8) (v := .tuple #[.slice (some ⟨gp, 0, none⟩) X.length X.length, .slice (some ⟨gr, 0, none⟩) (a.length + X.length) (a.length + X.length)]) rfl (by kernel_rfl) (by kernel_rfl) (by kernel_rfl) (fun _ _ _ h => h) (Or.inl ⟨by rfl, by intro wx hx; go_simp⟩) (by assumption) ?_
        try simp only [List.getElem_toArray, List.getElem_cons_succ, List.getElem_cons_zero, Act.put, List.setIfInBounds_toArray, List.set_cons_zero, List.set_cons_succ]
        refine wpAnyH_take (i := 9) (v := .slice (some ⟨gp, 0, none⟩) X.length X.length) rfl (by kernel_rfl) (by kernel_rfl) (by kernel_rfl) (fun _ _ _ h => h) (Or.inl ⟨by rfl, by intro wx hx; go_simp⟩) (by assumption) ?_
        try simp only [List.getElem_toArray, List.getElem_cons_succ, List.getElem_cons_zero, Act.put, List.setIfInBounds_toArray, List.set_cons_zero, List.set_cons_succ]
        refine wpAnyH_take (i := 10) (v := .slice (some ⟨gr, 0, none⟩) (a.length + X.length) (a.length + X.length)) rfl (by kernel_rfl) (by kernel_rfl) (by kernel_rfl) (fun _ _ _ h => h) (Or.inl ⟨by rfl, by intro wx hx; go_simp⟩) (by assumption) ?_
        try simp only [List.getElem_toArray, List.getElem_cons_succ, List.getElem_cons_zero, Act.put, List.setIfInBounds_toArray, List.set_cons_zero, List.set_cons_succ]
        refine wpAnyH_take (i := 11) (v := .slice (some ⟨gp, 0, none⟩) X.length X.length) rfl (by kernel_rfl) (by kernel_rfl) (by kernel_rfl) (fun _ _ _ h => h) (Or.inl ⟨by rfl, by intro wx hx; go_simp⟩) (by assumption) ?_
        try simp only [List.getElem_toArray, List.getElem_cons_succ, List.getElem_cons_zero, Act.put, List.setIfInBounds_toArray, List.set_cons_zero, List.set_cons_succ]
        refine wpAnyH_take (i := 12) (v := .slice (some ⟨gr, 0, none⟩) (a.length + X.length) (a.length + X.length)) rfl (by kernel_rfl) (by kernel_rfl) (by kernel_rfl) (fun _ _ _ h => h) (Or.inl ⟨by rfl, by intro wx hx; go_simp⟩) (by assumption) ?_
        try simp only [List.getElem_toArray, List.getElem_cons_succ, List.getElem_cons_zero, Act.put, List.setIfInBounds_toArray, List.set_cons_zero, List.set_cons_succ]
        refine wpAnyH_done (by kernel_rfl) ?_ _
        have b0 : Below B w1 w6 := hEb.out _ (Ext.trans eZ ez6)
        have hB6 : B ≤ w6.heap.size := Nat.le_trans hBz ez6.size
        have hCh0 := hid (Chs.begin (k := a.length) (c := flC M a X) (n := X.length) (m := a.length + X.length) hM5.out hbest.out)
        clear ownZ own6 e6 e36 e35 e06 ez5 ez6 ez3 e03 e02 e0d e0Z eA eZ hBz iZ hSx
        clear ed hpb hrb e2 e3 e5
        have hgq := hid (fun (L : List Int) (hL : Bst a.length (flC M a X) X.length (a.length + X.length) L) (hl : L.length < X.length) (l : Nat) (hal : alB a.length L.length l = true) (ht : pr L.length - r l = flC M a X L.length l) => bst_grid hM5.out hCt.out hL hl l hal ht)
        have hti := hid (fun (L : List Int) (l : Nat) (hL : Bst a.length (flC M a X) X.length (a.length + X.length) (L ++ [(l : Int)])) (hl : L.length < X.length) => (show tgtB a.length (flC M a X) pr r l L.length = true from by
          obtain ⟨x, h1, h2, h3, h4⟩ := hL.tight hM5.out hCt.out (by rw [List.length_append]; simp; omega) L.length (by rw [List.length_append]; simp)
          rw [fw_app1, if_neg (by omega), if_pos rfl] at h1
          obtain rfl : l = x := by omega
          unfold tgtB
          rw [h3, h4]
          simp))
        clear hbest hM5 hCt hR2
        go_upto_region 6 with fail
        go_loopw [8, 11] (fun ov iv wr => ∃ (i : Nat) (d : Option Addr) (q : Nat) (L : List Int), ov = .slice d i q ∧ iv = .int .i64 i ∧ i ≤ X.length ∧ Hid (Chs a.length (flC M a X) X.length (a.length + X.length) L i) ∧ Own wr B (intRowOf 3 (.slice d i q) L :: R2) ∧ Below B w1 wr ∧ B ≤ wr.heap.size) (fun _ iv _ => X.length - (intOf iv).toNat)
        case atStart => exact ⟨0, _, _, _, rfl, rfl, by omega, hCh0, own0, b0, hB6⟩
        case round =>
          clear own0 b0 hB6 hCh0
          obtain ⟨i, d, q, L, rfl, rfl, hi, hCh, own, hb, hBw⟩ := hrel
          obtain ⟨wo, rfl⟩ : ∃ y : World, y = wr := ⟨_, rfl⟩
          by_cases hlt : i < X.length
          · have hLl := hid hCh.out.len
            have hnx := hid (hCh.out.bst.next (by rw [hLl.out]; exact hlt))
            go_upto_region 9 with fail
            go_loopw [8, 12] (fun ov lv wr => ∃ (l : Nat), ov = .slice d i q ∧ lv = .int .i64 l ∧ l ≤ a.length + i ∧ Hid (∀ l' : Nat, l' < l → ¬ Bst a.length (flC M a X) X.length (a.length + X.length) (L ++ [(l' : Int)])) ∧ Own wr B (intRowOf 3 (.slice d i q) L :: R2) ∧ Below B w1 wr ∧ B ≤ wr.heap.size) (fun _ lv _ => a.length + i - (intOf lv).toNat)
            case atStart => exact ⟨0, rfl, rfl, by omega, hid (fun l' h => by omega), own, hb, hBw⟩
            case round =>
              clear own hb hBw
              obtain ⟨l, rfl, rfl, hl, hno, own, hb, hBw⟩ := hrel
              obtain ⟨wo, rfl⟩ : ∃ y : World, y = wr := ⟨_, rfl⟩
              by_cases hll : l < a.length + i
              · have e1o := hE.out wo hb
                have hlm : l < a.length + X.length := by omega
                have hal1 := hid (show alB a.length L.length l = true by unfold alB; rw [hLl.out]; exact decide_eq_true hll)
                have hLi9 := hid (show ∀ x ∈ L ++ [(l : Int)], I64 x from fun x hx => by
                  rcases List.mem_append.1 hx with h | h
                  · obtain ⟨j, hj, rfl⟩ := fw_mem h
                    rw [hLl.out] at hj
                    have := hCh.out.nn j hj
                    unfold I64; omega
                  · rw [List.mem_singleton] at h; subst h; unfold I64; omega)
                have hLo : IsInts wo (.slice d i q) L := own.head1.reads (by rw [hLl.out]; unfold Short; omega) (fun x hx => hLi9.out x (List.mem_append_left _ hx))
                have hLn : L.length ≤ 24 := by rw [hLl.out]; omega
                have hP1 := (hPR.out wo own.tail).1
                have hP2 := (hPR.out wo own.tail).2
                have hHa := hid (fun (u : World) (e : Ext wo u) => @l1Has_any (.slice d i q) L (l : Int) wo u e hLo)
                have hbc := hid (fun (u : World) (e : Ext wo u) => show u.cell? ⟨bx, 0, none⟩ = some (.slice a1 M.length c1) from (hSb.out u (Ext.trans e1o e)).2.2)
                go_upto_region 11 with fail
                refine region_held_from (w0 := wo) (S := fun u => u.cell? ⟨bx, 0, none⟩ = some (.slice a1 M.length c1)) (by kernel_rfl) hbc.out (fun wd ed hHeld0 => ?_)
                have e0d := (hSb.out wd (Ext.trans e1o ed)).1
                cases hh : hasB L (l : Int) with
                | true =>
                  have hnl := hid (show ¬ Bst a.length (flC M a X) X.length (a.length + X.length) (L ++ [(l : Int)]) from fun h => (h.in1 (by rw [hLl.out]; exact hlt)).2.2 (hasB_true.1 hh))
                  replace hh := hid hh
                  rw [hh.out] at hHa
                  refine wpAnyH_take (i := 0) (v := .slice d i q) rfl (by kernel_rfl) (by kernel_rfl) (by kernel_rfl) (fun _ _ _ h => h) (Or.inl ⟨by rfl, by intro wx hx; go_simp⟩) (by assumption) ?_
                  try simp only [List.getElem_toArray, List.getElem_cons_zero, Act.put, List.setIfInBounds_toArray, List.set_cons_zero, List.set_cons_succ]
                  refine wpAnyH_take (i := 1) (v := .int .i64 l) rfl (by kernel_rfl) (by kernel_rfl) (by kernel_rfl) (fun _ _ _ h => h) (Or.inl ⟨by rfl, by intro wx hx; go_simp⟩) (by assumption) ?_
                  try simp only [List.getElem_toArray, List.getElem_cons_succ, List.getElem_cons_zero, Act.put, List.setIfInBounds_toArray, List.set_cons_zero, List.set_cons_succ]
                  refine wpAnyH_ready (rs := [2]) (by kernel_rfl) (by simp) ?_
                  refine AllReadyH.cons rfl (fun K hK => ?_) AllReadyH.nil
                  go_simp
                  go_at_call 15
                  with_reducible refine (hHa.out wd ed).mono ?_
                  rintro e w7 ⟨rfl, rfl⟩
                  go_wp2_with fail
                  refine hK.out _ _ (hbc.out wd ed) (fun _ => ?_)
                  clear hK K
                  try simp only [List.getElem_toArray, List.getElem_cons_succ, List.getElem_cons_zero, Act.put, List.setIfInBounds_toArray, List.set_cons_zero, List.set_cons_succ]
                  refine wpAnyH_take (i := 3) (v := .bool false) rfl (by kernel_rfl) (by kernel_rfl) (by kernel_rfl) (fun _ _ _ h => h) (Or.inl ⟨by rfl, by intro wx hx; go_simp⟩) (by assumption) ?_
                  try simp only [List.getElem_toArray, List.getElem_cons_succ, List.getElem_cons_zero, Act.put, List.setIfInBounds_toArray, List.set_cons_zero, List.set_cons_succ]
                  refine wpAnyH_take (i := 4) (v := .bool false) rfl (by kernel_rfl) (by kernel_rfl) (by kernel_rfl) (fun _ _ _ h => h) (Or.inl ⟨by rfl, by intro wx hx; go_simp⟩) (by assumption) ?_
                  try simp only [List.getElem_toArray, List.getElem_cons_succ, List.getElem_cons_zero, Act.put, List.setIfInBounds_toArray, List.set_cons_zero, List.set_cons_succ]
                  refine wpAnyH_take (i := 5) (v := undef) rfl (by kernel_rfl) (by kernel_rfl) (by kernel_rfl) (fun _ _ _ h => h) (Or.inr ⟨by kernel_rfl, rfl⟩) (by assumption) ?_
                  try simp only [List.getElem_toArray, List.getElem_cons_succ, List.getElem_cons_zero, Act.put, List.setIfInBounds_toArray, List.set_cons_zero, List.set_cons_succ]
                  refine wpAnyH_take (i := 6) (v := undef) rfl (by kernel_rfl) (by kernel_rfl) (by kernel_rfl) (fun _ _ _ h => h) (Or.inr ⟨by kernel_rfl, rfl⟩) (by assumption) ?_
                  try simp only [List.getElem_toArray, List.getElem_cons_succ, List.getElem_cons_zero, Act.put, List.setIfInBounds_toArray, List.set_cons_zero, List.set_cons_succ]
                  refine wpAnyH_take (i := 7) (v := undef) rfl (by kernel_rfl) (by kernel_rfl) (by kernel_rfl) (fun _ _ _ h => h) (Or.inr ⟨by kernel_rfl, rfl⟩) (by assumption) ?_
                  try simp only [List.getElem_toArray, List.getElem_cons_succ, List.getElem_cons_zero, Act.put, List.setIfInBounds_toArray, List.set_cons_zero, List.set_cons_succ]
                  refine wpAnyH_take (i := 8) (v := undef) rfl (by kernel_rfl) (by kernel_rfl) (by kernel_rfl) (fun _ _ _ h => h) (Or.inr ⟨by kernel_rfl, rfl⟩) (by assumption) ?_
                  try simp only [List.getElem_toArray, List.getElem_cons_succ, List.getElem_cons_zero, Act.put, List.setIfInBounds_toArray, List.set_cons_zero, List.set_cons_succ]
                  refine wpAnyH_take (i := 9) (v := undef) rfl (by kernel_rfl) (by kernel_rfl) (by kernel_rfl) (fun _ _ _ h => h) (Or.inr ⟨by kernel_rfl, rfl⟩) (by assumption) ?_
                  try simp only [List.getElem_toArray, List.getElem_cons_succ, List.getElem_cons_zero, Act.put, List.setIfInBounds_toArray, List.set_cons_zero, List.set_cons_succ]
                  refine wpAnyH_take (i := 10) (v := undef) rfl (by kernel_rfl) (by kernel_rfl) (by kernel_rfl) (fun _ _ _ h => h) (Or.inr ⟨by kernel_rfl, rfl⟩) (by assumption) ?_
                  try simp only [List.getElem_toArray, List.getElem_cons_succ, List.getElem_cons_zero, Act.put, List.setIfInBounds_toArray, List.set_cons_zero, List.set_cons_succ]
                  refine wpAnyH_take (i := 11) (v := undef) rfl (by kernel_rfl) (by kernel_rfl) (by kernel_rfl) (fun _ _ _ h => h) (Or.inr ⟨by kernel_rfl, rfl⟩) (by assumption) ?_
                  try simp only [List.getElem_toArray, List.getElem_cons_succ, List.getElem_cons_zero, Act.put, List.setIfInBounds_toArray, List.set_cons_zero, List.set_cons_succ]
                  refine wpAnyH_take (i := 12) (v := undef) rfl (by kernel_rfl) (by kernel_rfl) (by kernel_rfl) (fun _ _ _ h => h) (Or.inr ⟨by kernel_rfl, rfl⟩) (by assumption) ?_
                  try simp only [List.getElem_toArray, List.getElem_cons_succ, List.getElem_cons_zero, Act.put, List.setIfInBounds_toArray, List.set_cons_zero, List.set_cons_succ]
                  refine wpAnyH_take (i := 13) (v := .bool false) rfl (by kernel_rfl) (by kernel_rfl) (by kernel_rfl) (fun _ _ _ h => h) (Or.inl ⟨by rfl, by intro wx hx; go_simp⟩) (by assumption) ?_
                  try simp only [List.getElem_toArray, List.getElem_cons_succ, List.getElem_cons_zero, Act.put, List.setIfInBounds_toArray, List.set_cons_zero, List.set_cons_succ]
                  refine wpAnyH_take (i := 14) (v := .bool false) rfl (by kernel_rfl) (by kernel_rfl) (by kernel_rfl) (fun _ _ _ h => h) (Or.inl ⟨by rfl, by intro wx hx; go_simp⟩) (by assumption) ?_
                  try simp only [List.getElem_toArray, List.getElem_cons_succ, List.getElem_cons_zero, Act.put, List.setIfInBounds_toArray, List.set_cons_zero, List.set_cons_succ]
                  refine wpAnyH_take (i := 15) (v := undef) rfl (by kernel_rfl) (by kernel_rfl) (by kernel_rfl) (fun _ _ _ h => h) (Or.inr ⟨by kernel_rfl, rfl⟩) (by assumption) ?_
                  try simp only [List.getElem_toArray, List.getElem_cons_succ, List.getElem_cons_zero, Act.put, List.setIfInBounds_toArray, List.set_cons_zero, List.set_cons_succ]
                  refine wpAnyH_take (i := 16) (v := undef) rfl (by kernel_rfl) (by kernel_rfl) (by kernel_rfl) (fun _ _ _ h => h) (Or.inr ⟨by kernel_rfl, rfl⟩) (by assumption) ?_
                  try simp only [List.getElem_toArray, List.getElem_cons_succ, List.getElem_cons_zero, Act.put, List.setIfInBounds_toArray, List.set_cons_zero, List.set_cons_succ]
                  refine wpAnyH_take (i := 17) (v := undef) rfl (by kernel_rfl) (by kernel_rfl) (by kernel_rfl) (fun _ _ _ h => h) (Or.inr ⟨by kernel_rfl, rfl⟩) (by assumption) ?_
                  try simp only [List.getElem_toArray, List.getElem_cons_succ, List.getElem_cons_zero, Act.put, List.setIfInBounds_toArray, List.set_cons_zero, List.set_cons_succ]
                  refine wpAnyH_take (i := 18) (v := undef) rfl (by kernel_rfl) (by kernel_rfl) (by kernel_rfl) (fun _ _ _ h => h) (Or.inr ⟨by kernel_rfl, rfl⟩) (by assumption) ?_
                  try simp only [List.getElem_toArray, List.getElem_cons_succ, List.getElem_cons_zero, Act.put, List.setIfInBounds_toArray, List.set_cons_zero, List.set_cons_succ]
                  refine wpAnyH_take (i := 19) (v := undef) rfl (by kernel_rfl) (by kernel_rfl) (by kernel_rfl) (fun _ _ _ h => h) (Or.inr ⟨by kernel_rfl, rfl⟩) (by assumption) ?_
                  try simp only [List.getElem_toArray, List.getElem_cons_succ, List.getElem_cons_zero, Act.put, List.setIfInBounds_toArray, List.set_cons_zero, List.set_cons_succ]
                  refine wpAnyH_take (i := 20) (v := undef) rfl (by kernel_rfl) (by kernel_rfl) (by kernel_rfl) (fun _ _ _ h => h) (Or.inr ⟨by kernel_rfl, rfl⟩) (by assumption) ?_
                  try simp only [List.getElem_toArray, List.getElem_cons_succ, List.getElem_cons_zero, Act.put, List.setIfInBounds_toArray, List.set_cons_zero, List.set_cons_succ]
                  refine wpAnyH_take (i := 21) (v := undef) rfl (by kernel_rfl) (by kernel_rfl) (by kernel_rfl) (fun _ _ _ h => h) (Or.inr ⟨by kernel_rfl, rfl⟩) (by assumption) ?_
                  try simp only [List.getElem_toArray, List.getElem_cons_succ, List.getElem_cons_zero, Act.put, List.setIfInBounds_toArray, List.set_cons_zero, List.set_cons_succ]
                  refine wpAnyH_take (i := 22) (v := undef) rfl (by kernel_rfl) (by kernel_rfl) (by kernel_rfl) (fun _ _ _ h => h) (Or.inr ⟨by kernel_rfl, rfl⟩) (by assumption) ?_
                  try simp only [List.getElem_toArray, List.getElem_cons_succ, List.getElem_cons_zero, Act.put, List.setIfInBounds_toArray, List.set_cons_zero, List.set_cons_succ]
                  refine wpAnyH_take (i := 23) (v := undef) rfl (by kernel_rfl) (by kernel_rfl) (by kernel_rfl) (fun _ _ _ h => h) (Or.inr ⟨by kernel_rfl, rfl⟩) (by assumption) ?_
                  try simp only [List.getElem_toArray, List.getElem_cons_succ, List.getElem_cons_zero, Act.put, List.setIfInBounds_toArray, List.set_cons_zero, List.set_cons_succ]
                  refine wpAnyH_take (i := 24) (v := undef) rfl (by kernel_rfl) (by kernel_rfl) (by kernel_rfl) (fun _ _ _ h => h) (Or.inr ⟨by kernel_rfl, rfl⟩) (by assumption) ?_
                  try simp only [List.getElem_toArray, List.getElem_cons_succ, List.getElem_cons_zero, Act.put, List.setIfInBounds_toArray, List.set_cons_zero, List.set_cons_succ]
                  refine wpAnyH_take (i := 25) (v := undef) rfl (by kernel_rfl) (by kernel_rfl) (by kernel_rfl) (fun _ _ _ h => h) (Or.inr ⟨by kernel_rfl, rfl⟩) (by assumption) ?_
                  try simp only [List.getElem_toArray, List.getElem_cons_succ, List.getElem_cons_zero, Act.put, List.setIfInBounds_toArray, List.set_cons_zero, List.set_cons_succ]
                  refine wpAnyH_take (i := 26) (v := .bool false) rfl (by kernel_rfl) (by kernel_rfl) (by kernel_rfl) (fun _ _ _ h => h) (Or.inl ⟨by rfl, by intro wx hx; go_simp⟩) (by assumption) ?_
                  try simp only [List.getElem_toArray, List.getElem_cons_succ, List.getElem_cons_zero, Act.put, List.setIfInBounds_toArray, List.set_cons_zero, List.set_cons_succ]
                  refine wpAnyH_done (by kernel_rfl) ?_ _
                  go_wp2_with fail
                  go_roundw
                  case rel => exact ⟨l + 1, rfl, by go_num, by omega, hid (fun l' hl' => by
                    by_cases q : l' < l
                    · exact hno.out l' q
                    · obtain rfl : l' = l := by omega
                      exact hnl.out), own.ext (w' := wd) (e := ed), hb.trans (ed.below.mono hBw), Nat.le_trans hBw ed.below.size⟩
                  case measure => simp [intOf]; omega
                | false =>
                  replace hh := hid hh
                  rw [hh.out] at hHa
                  have hTc := hid (fun (u : World) (e : Ext wo u) => hTi.out u (hSb.out u (Ext.trans e1o e)).1 (hP1.ext (e := e)) (hP2.ext (e := e)) l i hlt hlm)
                  cases ht : tgtB a.length (flC M a X) pr r l i with
                  | false =>
                    have hnl := hid (show ¬ Bst a.length (flC M a X) X.length (a.length + X.length) (L ++ [(l : Int)]) from fun h => by
                      have h2 := hti.out L l h (by rw [hLl.out]; exact hlt)
                      rw [hLl.out, ht] at h2
                      cases h2)
                    replace ht := hid ht
                    rw [ht.out] at hTc
                    refine wpAnyH_take (i := 0) (v := .slice d i q) rfl (by kernel_rfl) (by kernel_rfl) (by kernel_rfl) (fun _ _ _ h => h) (Or.inl ⟨by rfl, by intro wx hx; go_simp⟩) (by assumption) ?_
                    try simp only [List.getElem_toArray, List.getElem_cons_zero, Act.put, List.setIfInBounds_toArray, List.set_cons_zero, List.set_cons_succ]
                    refine wpAnyH_take (i := 1) (v := .int .i64 l) rfl (by kernel_rfl) (by kernel_rfl) (by kernel_rfl) (fun _ _ _ h => h) (Or.inl ⟨by rfl, by intro wx hx; go_simp⟩) (by assumption) ?_
                    try simp only [List.getElem_toArray, List.getElem_cons_succ, List.getElem_cons_zero, Act.put, List.setIfInBounds_toArray, List.set_cons_zero, List.set_cons_succ]
                    refine wpAnyH_ready (rs := [2]) (by kernel_rfl) (by simp) ?_
                    refine AllReadyH.cons rfl (fun K hK => ?_) AllReadyH.nil
                    go_simp
                    go_at_call 15
                    with_reducible refine (hHa.out wd ed).mono ?_
                    rintro e w7 ⟨rfl, rfl⟩
                    go_wp2_with fail
                    refine hK.out _ _ (hbc.out wd ed) (fun _ => ?_)
                    clear hK K
                    try simp only [List.getElem_toArray, List.getElem_cons_succ, List.getElem_cons_zero, Act.put, List.setIfInBounds_toArray, List.set_cons_zero, List.set_cons_succ]
                    refine wpAnyH_take (i := 3) (v := .bool true) rfl (by kernel_rfl) (by kernel_rfl) (by kernel_rfl) (fun _ _ _ h => h) (Or.inl ⟨by rfl, by intro wx hx; go_simp⟩) (by assumption) ?_
                    try simp only [List.getElem_toArray, List.getElem_cons_succ, List.getElem_cons_zero, Act.put, List.setIfInBounds_toArray, List.set_cons_zero, List.set_cons_succ]
                    refine wpAnyH_take (i := 4) (v := .bool true) rfl (by kernel_rfl) (by kernel_rfl) (by kernel_rfl) (fun _ _ _ h => h) (Or.inl ⟨by rfl, by intro wx hx; go_simp⟩) (by assumption) ?_
                    try simp only [List.getElem_toArray, List.getElem_cons_succ, List.getElem_cons_zero, Act.put, List.setIfInBounds_toArray, List.set_cons_zero, List.set_cons_succ]
                    refine wpAnyH_take (i := 5) (v := .agg #[.slice a1 M.length c1]) rfl (by kernel_rfl) (by kernel_rfl) (by kernel_rfl) (fun _ _ _ h => h) (Or.inl ⟨by rfl, by intro wx hx; go_simp⟩) (by assumption) ?_
                    try simp only [List.getElem_toArray, List.getElem_cons_succ, List.getElem_cons_zero, Act.put, List.setIfInBounds_toArray, List.set_cons_zero, List.set_cons_succ]
                    refine wpAnyH_take (i := 6) (v := .slice da a.length ma) rfl (by kernel_rfl) (by kernel_rfl) (by kernel_rfl) (fun _ _ _ h => h) (Or.inl ⟨by rfl, by intro wx hx; go_simp⟩) (by assumption) ?_
                    try simp only [List.getElem_toArray, List.getElem_cons_succ, List.getElem_cons_zero, Act.put, List.setIfInBounds_toArray, List.set_cons_zero, List.set_cons_succ]
                    refine wpAnyH_take (i := 7) (v := .slice dx X.length mx) rfl (by kernel_rfl) (by kernel_rfl) (by kernel_rfl) (fun _ _ _ h => h) (Or.inl ⟨by rfl, by intro wx hx; go_simp⟩) (by assumption) ?_
                    try simp only [List.getElem_toArray, List.getElem_cons_succ, List.getElem_cons_zero, Act.put, List.setIfInBounds_toArray, List.set_cons_zero, List.set_cons_succ]
                    refine wpAnyH_take (i := 8) (v := .slice (some ⟨gp, 0, none⟩) X.length X.length) rfl (by kernel_rfl) (by kernel_rfl) (by kernel_rfl) (fun _ _ _ h => h) (Or.inl ⟨by rfl, by intro wx hx; go_simp⟩) (by assumption) ?_
                    try simp only [List.getElem_toArray, List.getElem_cons_succ, List.getElem_cons_zero, Act.put, List.setIfInBounds_toArray, List.set_cons_zero, List.set_cons_succ]
                    refine wpAnyH_take (i := 9) (v := .slice (some ⟨gr, 0, none⟩) (a.length + X.length) (a.length + X.length)) rfl (by kernel_rfl) (by kernel_rfl) (by kernel_rfl) (fun _ _ _ h => h) (Or.inl ⟨by rfl, by intro wx hx; go_simp⟩) (by assumption) ?_
                    try simp only [List.getElem_toArray, List.getElem_cons_succ, List.getElem_cons_zero, Act.put, List.setIfInBounds_toArray, List.set_cons_zero, List.set_cons_succ]
                    refine wpAnyH_take (i := 10) (v := .int .i64 l) rfl (by kernel_rfl) (by kernel_rfl) (by kernel_rfl) (fun _ _ _ h => h) (Or.inl ⟨by rfl, by intro wx hx; go_simp⟩) (by assumption) ?_
                    try simp only [List.getElem_toArray, List.getElem_cons_succ, List.getElem_cons_zero, Act.put, List.setIfInBounds_toArray, List.set_cons_zero, List.set_cons_succ]
                    refine wpAnyH_take (i := 11) (v := .int .i64 i) rfl (by kernel_rfl) (by kernel_rfl) (by kernel_rfl) (fun _ _ _ h => h) (Or.inl ⟨by rfl, by intro wx hx; go_simp⟩) (by assumption) ?_
                    try simp only [List.getElem_toArray, List.getElem_cons_succ, List.getElem_cons_zero, Act.put, List.setIfInBounds_toArray, List.set_cons_zero, List.set_cons_succ]
                    refine wpAnyH_ready (rs := [12]) (by kernel_rfl) (by simp) ?_
                    refine AllReadyH.cons rfl (fun K hK => ?_) AllReadyH.nil
                    go_simp
                    go_at_call 30
                    with_reducible refine (hTc.out wd ed).mono ?_
                    rintro e wt ⟨rfl, et'⟩
                    have et : Ext wo wt := Ext.trans ed et'
                    go_wp2_with fail
                    refine hK.out _ _ (hbc.out wt et) (fun _ => ?_)
                    clear hK K
                    try simp only [List.getElem_toArray, List.getElem_cons_succ, List.getElem_cons_zero, Act.put, List.setIfInBounds_toArray, List.set_cons_zero, List.set_cons_succ]
                    refine wpAnyH_take (i := 13) (v := .bool false) rfl (by kernel_rfl) (by kernel_rfl) (by kernel_rfl) (fun _ _ _ h => h) (Or.inl ⟨by rfl, by intro wx hx; go_simp⟩) (by assumption) ?_
                    try simp only [List.getElem_toArray, List.getElem_cons_succ, List.getElem_cons_zero, Act.put, List.setIfInBounds_toArray, List.set_cons_zero, List.set_cons_succ]
                    refine wpAnyH_take (i := 14) (v := .bool false) rfl (by kernel_rfl) (by kernel_rfl) (by kernel_rfl) (fun _ _ _ h => h) (Or.inl ⟨by rfl, by intro wx hx; go_simp⟩) (by assumption) ?_
                    try simp only [List.getElem_toArray, List.getElem_cons_succ, List.getElem_cons_zero, Act.put, List.setIfInBounds_toArray, List.set_cons_zero, List.set_cons_succ]
                    refine wpAnyH_take (i := 15) (v := undef) rfl (by kernel_rfl) (by kernel_rfl) (by kernel_rfl) (fun _ _ _ h => h) (Or.inr ⟨by kernel_rfl, rfl⟩) (by assumption) ?_
                    try simp only [List.getElem_toArray, List.getElem_cons_succ, List.getElem_cons_zero, Act.put, List.setIfInBounds_toArray, List.set_cons_zero, List.set_cons_succ]
                    refine wpAnyH_take (i := 16) (v := undef) rfl (by kernel_rfl) (by kernel_rfl) (by kernel_rfl) (fun _ _ _ h => h) (Or.inr ⟨by kernel_rfl, rfl⟩) (by assumption) ?_
                    try simp only [List.getElem_toArray, List.getElem_cons_succ, List.getElem_cons_zero, Act.put, List.setIfInBounds_toArray, List.set_cons_zero, List.set_cons_succ]
                    refine wpAnyH_take (i := 17) (v := undef) rfl (by kernel_rfl) (by kernel_rfl) (by kernel_rfl) (fun _ _ _ h => h) (Or.inr ⟨by kernel_rfl, rfl⟩) (by assumption) ?_
                    try simp only [List.getElem_toArray, List.getElem_cons_succ, List.getElem_cons_zero, Act.put, List.setIfInBounds_toArray, List.set_cons_zero, List.set_cons_succ]
                    refine wpAnyH_take (i := 18) (v := undef) rfl (by kernel_rfl) (by kernel_rfl) (by kernel_rfl) (fun _ _ _ h => h) (Or.inr ⟨by kernel_rfl, rfl⟩) (by assumption) ?_
                    try simp only [List.getElem_toArray, List.getElem_cons_succ, List.getElem_cons_zero, Act.put, List.setIfInBounds_toArray, List.set_cons_zero, List.set_cons_succ]
                    refine wpAnyH_take (i := 19) (v := undef) rfl (by kernel_rfl) (by kernel_rfl) (by kernel_rfl) (fun _ _ _ h => h) (Or.inr ⟨by kernel_rfl, rfl⟩) (by assumption) ?_
                    try simp only [List.getElem_toArray, List.getElem_cons_succ, List.getElem_cons_zero, Act.put, List.setIfInBounds_toArray, List.set_cons_zero, List.set_cons_succ]
                    refine wpAnyH_take (i := 20) (v := undef) rfl (by kernel_rfl) (by kernel_rfl) (by kernel_rfl) (fun _ _ _ h => h) (Or.inr ⟨by kernel_rfl, rfl⟩) (by assumption) ?_
                    try simp only [List.getElem_toArray, List.getElem_cons_succ, List.getElem_cons_zero, Act.put, List.setIfInBounds_toArray, List.set_cons_zero, List.set_cons_succ]
                    refine wpAnyH_take (i := 21) (v := undef) rfl (by kernel_rfl) (by kernel_rfl) (by kernel_rfl) (fun _ _ _ h => h) (Or.inr ⟨by kernel_rfl, rfl⟩) (by assumption) ?_
                    try simp only [List.getElem_toArray, List.getElem_cons_succ, List.getElem_cons_zero, Act.put, List.setIfInBounds_toArray, List.set_cons_zero, List.set_cons_succ]
                    refine wpAnyH_take (i := 22) (v := undef) rfl (by kernel_rfl) (by kernel_rfl) (by kernel_rfl) (fun _ _ _ h => h) (Or.inr ⟨by kernel_rfl, rfl⟩) (by assumption) ?_
                    try simp only [List.getElem_toArray, List.getElem_cons_succ, List.getElem_cons_zero, Act.put, List.setIfInBounds_toArray, List.set_cons_zero, List.set_cons_succ]
                    refine wpAnyH_take (i := 23) (v := undef) rfl (by kernel_rfl) (by kernel_rfl) (by kernel_rfl) (fun _ _ _ h => h) (Or.inr ⟨by kernel_rfl, rfl⟩) (by assumption) ?_
                    try simp only [List.getElem_toArray, List.getElem_cons_succ, List.getElem_cons_zero, Act.put, List.setIfInBounds_toArray, List.set_cons_zero, List.set_cons_succ]
                    refine wpAnyH_take (i := 24) (v := undef) rfl (by kernel_rfl) (by kernel_rfl) (by kernel_rfl) (fun _ _ _ h => h) (Or.inr ⟨by kernel_rfl, rfl⟩) (by assumption) ?_
                    try simp only [List.getElem_toArray, List.getElem_cons_succ, List.getElem_cons_zero, Act.put, List.setIfInBounds_toArray, List.set_cons_zero, List.set_cons_succ]
                    refine wpAnyH_take (i := 25) (v := undef) rfl (by kernel_rfl) (by kernel_rfl) (by kernel_rfl) (fun _ _ _ h => h) (Or.inr ⟨by kernel_rfl, rfl⟩) (by assumption) ?_
                    try simp only [List.getElem_toArray, List.getElem_cons_succ, List.getElem_cons_zero, Act.put, List.setIfInBounds_toArray, List.set_cons_zero, List.set_cons_succ]
                    refine wpAnyH_take (i := 26) (v := .bool false) rfl (by kernel_rfl) (by kernel_rfl) (by kernel_rfl) (fun _ _ _ h => h) (Or.inl ⟨by rfl, by intro wx hx; go_simp⟩) (by assumption) ?_
                    try simp only [List.getElem_toArray, List.getElem_cons_succ, List.getElem_cons_zero, Act.put, List.setIfInBounds_toArray, List.set_cons_zero, List.set_cons_succ]
                    refine wpAnyH_done (by kernel_rfl) ?_ _
                    go_wp2_with fail
                    go_roundw
                    case rel => exact ⟨l + 1, rfl, by go_num, by omega, hid (fun l' hl' => by
                      by_cases q : l' < l
                      · exact hno.out l' q
                      · obtain rfl : l' = l := by omega
                        exact hnl.out), own.ext (w' := wt) (e := et), hb.trans (et.below.mono hBw), Nat.le_trans hBw et.below.size⟩
                    case measure => simp [intOf]; omega
                  | true =>
                    have hq := hid (hgq.out L hCh.out.bst (by rw [hLl.out]; exact hlt) l hal1.out (by
                      rw [hLl.out]
                      unfold tgtB at ht
                      rw [Bool.and_eq_true, beq_iff_eq] at ht
                      exact ht.2))
                    replace ht := hid ht
                    rw [ht.out] at hTc
                    refine wpAnyH_take (i := 0) (v := .slice d i q) rfl (by kernel_rfl) (by kernel_rfl) (by kernel_rfl) (fun _ _ _ h => h) (Or.inl ⟨by rfl, by intro wx hx; go_simp⟩) (by assumption) ?_
                    try simp only [List.getElem_toArray, List.getElem_cons_zero, Act.put, List.setIfInBounds_toArray, List.set_cons_zero, List.set_cons_succ]
                    refine wpAnyH_take (i := 1) (v := .int .i64 l) rfl (by kernel_rfl) (by kernel_rfl) (by kernel_rfl) (fun _ _ _ h => h) (Or.inl ⟨by rfl, by intro wx hx; go_simp⟩) (by assumption) ?_
                    try simp only [List.getElem_toArray, List.getElem_cons_succ, List.getElem_cons_zero, Act.put, List.setIfInBounds_toArray, List.set_cons_zero, List.set_cons_succ]
                    refine wpAnyH_ready (rs := [2]) (by kernel_rfl) (by simp) ?_
                    refine AllReadyH.cons rfl (fun K hK => ?_) AllReadyH.nil
                    go_simp
                    go_at_call 15
                    with_reducible refine (hHa.out wd ed).mono ?_
                    rintro e w7 ⟨rfl, rfl⟩
                    go_wp2_with fail
                    refine hK.out _ _ (hbc.out wd ed) (fun _ => ?_)
                    clear hK K
                    try simp only [List.getElem_toArray, List.getElem_cons_succ, List.getElem_cons_zero, Act.put, List.setIfInBounds_toArray, List.set_cons_zero, List.set_cons_succ]
                    refine wpAnyH_take (i := 3) (v := .bool true) rfl (by kernel_rfl) (by kernel_rfl) (by kernel_rfl) (fun _ _ _ h => h) (Or.inl ⟨by rfl, by intro wx hx; go_simp⟩) (by assumption) ?_
                    try simp only [List.getElem_toArray, List.getElem_cons_succ, List.getElem_cons_zero, Act.put, List.setIfInBounds_toArray, List.set_cons_zero, List.set_cons_succ]
                    refine wpAnyH_take (i := 4) (v := .bool true) rfl (by kernel_rfl) (by kernel_rfl) (by kernel_rfl) (fun _ _ _ h => h) (Or.inl ⟨by rfl, by intro wx hx; go_simp⟩) (by assumption) ?_
                    try simp only [List.getElem_toArray, List.getElem_cons_succ, List.getElem_cons_zero, Act.put, List.setIfInBounds_toArray, List.set_cons_zero, List.set_cons_succ]
                    refine wpAnyH_take (i := 5) (v := .agg #[.slice a1 M.length c1]) rfl (by kernel_rfl) (by kernel_rfl) (by kernel_rfl) (fun _ _ _ h => h) (Or.inl ⟨by rfl, by intro wx hx; go_simp⟩) (by assumption) ?_
                    try simp only [List.getElem_toArray, List.getElem_cons_succ, List.getElem_cons_zero, Act.put, List.setIfInBounds_toArray, List.set_cons_zero, List.set_cons_succ]
                    refine wpAnyH_take (i := 6) (v := .slice da a.length ma) rfl (by kernel_rfl) (by kernel_rfl) (by kernel_rfl) (fun _ _ _ h => h) (Or.inl ⟨by rfl, by intro wx hx; go_simp⟩) (by assumption) ?_
                    try simp only [List.getElem_toArray, List.getElem_cons_succ, List.getElem_cons_zero, Act.put, List.setIfInBounds_toArray, List.set_cons_zero, List.set_cons_succ]
                    refine wpAnyH_take (i := 7) (v := .slice dx X.length mx) rfl (by kernel_rfl) (by kernel_rfl) (by kernel_rfl) (fun _ _ _ h => h) (Or.inl ⟨by rfl, by intro wx hx; go_simp⟩) (by assumption) ?_
                    try simp only [List.getElem_toArray, List.getElem_cons_succ, List.getElem_cons_zero, Act.put, List.setIfInBounds_toArray, List.set_cons_zero, List.set_cons_succ]
                    refine wpAnyH_take (i := 8) (v := .slice (some ⟨gp, 0, none⟩) X.length X.length) rfl (by kernel_rfl) (by kernel_rfl) (by kernel_rfl) (fun _ _ _ h => h) (Or.inl ⟨by rfl, by intro wx hx; go_simp⟩) (by assumption) ?_
                    try simp only [List.getElem_toArray, List.getElem_cons_succ, List.getElem_cons_zero, Act.put, List.setIfInBounds_toArray, List.set_cons_zero, List.set_cons_succ]
                    refine wpAnyH_take (i := 9) (v := .slice (some ⟨gr, 0, none⟩) (a.length + X.length) (a.length + X.length)) rfl (by kernel_rfl) (by kernel_rfl) (by kernel_rfl) (fun _ _ _ h => h) (Or.inl ⟨by rfl, by intro wx hx; go_simp⟩) (by assumption) ?_
                    try simp only [List.getElem_toArray, List.getElem_cons_succ, List.getElem_cons_zero, Act.put, List.setIfInBounds_toArray, List.set_cons_zero, List.set_cons_succ]
                    refine wpAnyH_take (i := 10) (v := .int .i64 l) rfl (by kernel_rfl) (by kernel_rfl) (by kernel_rfl) (fun _ _ _ h => h) (Or.inl ⟨by rfl, by intro wx hx; go_simp⟩) (by assumption) ?_
                    try simp only [List.getElem_toArray, List.getElem_cons_succ, List.getElem_cons_zero, Act.put, List.setIfInBounds_toArray, List.set_cons_zero, List.set_cons_succ]
                    refine wpAnyH_take (i := 11) (v := .int .i64 i) rfl (by kernel_rfl) (by kernel_rfl) (by kernel_rfl) (fun _ _ _ h => h) (Or.inl ⟨by rfl, by intro wx hx; go_simp⟩) (by assumption) ?_
                    try simp only [List.getElem_toArray, List.getElem_cons_succ, List.getElem_cons_zero, Act.put, List.setIfInBounds_toArray, List.set_cons_zero, List.set_cons_succ]
                    refine wpAnyH_ready (rs := [12]) (by kernel_rfl) (by simp) ?_
                    refine AllReadyH.cons rfl (fun K hK => ?_) AllReadyH.nil
                    go_simp
                    go_at_call 30
                    with_reducible refine (hTc.out wd ed).mono ?_
                    rintro e wt ⟨rfl, et'⟩
                    have et : Ext wo wt := Ext.trans ed et'
                    go_wp2_with fail
                    refine hK.out _ _ (hbc.out wt et) (fun _ => ?_)
                    clear hK K
                    try simp only [List.getElem_toArray, List.getElem_cons_succ, List.getElem_cons_zero, Act.put, List.setIfInBounds_toArray, List.set_cons_zero, List.set_cons_succ]
                    refine wpAnyH_take (i := 13) (v := .bool true) rfl (by kernel_rfl) (by kernel_rfl) (by kernel_rfl) (fun _ _ _ h => h) (Or.inl ⟨by rfl, by intro wx hx; go_simp⟩) (by assumption) ?_
                    try simp only [List.getElem_toArray, List.getElem_cons_succ, List.getElem_cons_zero, Act.put, List.setIfInBounds_toArray, List.set_cons_zero, List.set_cons_succ]
                    refine wpAnyH_take (i := 14) (v := .bool true) rfl (by kernel_rfl) (by kernel_rfl) (by kernel_rfl) (fun _ _ _ h => h) (Or.inl ⟨by rfl, by intro wx hx; go_simp⟩) (by assumption) ?_
                    try simp only [List.getElem_toArray, List.getElem_cons_succ, List.getElem_cons_zero, Act.put, List.setIfInBounds_toArray, List.set_cons_zero, List.set_cons_succ]
                    refine wpAnyH_take (i := 15) (v := .agg #[.slice a1 M.length c1]) rfl (by kernel_rfl) (by kernel_rfl) (by kernel_rfl) (fun _ _ _ h => h) (Or.inl ⟨by rfl, by intro wx hx; go_simp⟩) (by assumption) ?_
                    try simp only [List.getElem_toArray, List.getElem_cons_succ, List.getElem_cons_zero, Act.put, List.setIfInBounds_toArray, List.set_cons_zero, List.set_cons_succ]
                    refine wpAnyH_take (i := 16) (v := .slice da a.length ma) rfl (by kernel_rfl) (by kernel_rfl) (by kernel_rfl) (fun _ _ _ h => h) (Or.inl ⟨by rfl, by intro wx hx; go_simp⟩) (by assumption) ?_
                    try simp only [List.getElem_toArray, List.getElem_cons_succ, List.getElem_cons_zero, Act.put, List.setIfInBounds_toArray, List.set_cons_zero, List.set_cons_succ]
                    refine wpAnyH_take (i := 17) (v := .slice dx X.length mx) rfl (by kernel_rfl) (by kernel_rfl) (by kernel_rfl) (fun _ _ _ h => h) (Or.inl ⟨by rfl, by intro wx hx; go_simp⟩) (by assumption) ?_
                    try simp only [List.getElem_toArray, List.getElem_cons_succ, List.getElem_cons_zero, Act.put, List.setIfInBounds_toArray, List.set_cons_zero, List.set_cons_succ]
                    refine wpAnyH_take (i := 18) (v := .slice (some ⟨gp, 0, none⟩) X.length X.length) rfl (by kernel_rfl) (by kernel_rfl) (by kernel_rfl) (fun _ _ _ h => h) (Or.inl ⟨by rfl, by intro wx hx; go_simp⟩) (by assumption) ?_
                    try simp only [List.getElem_toArray, List.getElem_cons_succ, List.getElem_cons_zero, Act.put, List.setIfInBounds_toArray, List.set_cons_zero, List.set_cons_succ]
                    refine wpAnyH_take (i := 19) (v := .slice (some ⟨gr, 0, none⟩) (a.length + X.length) (a.length + X.length)) rfl (by kernel_rfl) (by kernel_rfl) (by kernel_rfl) (fun _ _ _ h => h) (Or.inl ⟨by rfl, by intro wx hx; go_simp⟩) (by assumption) ?_
                    try simp only [List.getElem_toArray, List.getElem_cons_succ, List.getElem_cons_zero, Act.put, List.setIfInBounds_toArray, List.set_cons_zero, List.set_cons_succ]
                    refine wpAnyH_take (i := 20) (v := .slice d i q) rfl (by kernel_rfl) (by kernel_rfl) (by kernel_rfl) (fun _ _ _ h => h) (Or.inl ⟨by rfl, by intro wx hx; go_simp⟩) (by assumption) ?_
                    try simp only [List.getElem_toArray, List.getElem_cons_succ, List.getElem_cons_zero, Act.put, List.setIfInBounds_toArray, List.set_cons_zero, List.set_cons_succ]
                    refine wpAnyH_take (i := 22) (v := .int .i64 l) rfl (by kernel_rfl) (by kernel_rfl) (by kernel_rfl) (fun _ _ _ h => h) (Or.inl ⟨by rfl, by intro wx hx; go_simp⟩) (by assumption) ?_
                    try simp only [List.getElem_toArray, List.getElem_cons_succ, List.getElem_cons_zero, Act.put, List.setIfInBounds_toArray, List.set_cons_zero, List.set_cons_succ]
                    refine wpAnyH_ready (rs := [21, 23]) (by kernel_rfl) (by simp) ?_
                    refine AllReadyH.cons rfl (fun K hK => ?_) (AllReadyH.cons rfl (fun K hK => ?_) AllReadyH.nil)
                    · go_simp
                      go_at_call 32
                      with_reducible refine (l1Own_any (w0 := wo) (w := wt) hLo).mono ?_
                      rintro e w7 ⟨d7, m7, rfl, own7, e7⟩
                      have e07 : Ext wo w7 := Ext.trans et e7
                      go_wp2_with fail
                      refine hK.out _ _ (hbc.out w7 e07) (fun _ => ?_)
                      clear hK K
                      try simp only [List.getElem_toArray, List.getElem_cons_succ, List.getElem_cons_zero, Act.put, List.setIfInBounds_toArray, List.set_cons_zero, List.set_cons_succ]
                      have e8 : Ext w7 (w7.alloc (.cells #[.int .i64 l] 3)) := inferInstance
                      have u8 : (w7.alloc (.cells #[.int .i64 l] 3)).cell? ⟨w7.heap.size, 0, none⟩ = some (.int .i64 l) := by go_simp
                      refine wpAnyH_ready (rs := [23]) (by kernel_rfl) (by simp) ?_
                      refine AllReadyH.cons rfl (fun K hK => ?_) AllReadyH.nil
                      go_simp
                      refine hK.out _ _ (hbc.out _ (Ext.trans e07 e8)) (fun _ => ?_)
                      clear hK K
                      try simp only [List.getElem_toArray, List.getElem_cons_succ, List.getElem_cons_zero, Act.put, List.setIfInBounds_toArray, List.set_cons_zero, List.set_cons_succ]
                      generalize w7.alloc (.cells #[.int .i64 l] 3) = w8 at *
                      generalize w7.heap.size = g8 at *
                      have own8 : Own w8 wt.heap.size [⟨3, 1, .slice d7 L.length m7, L.length, L.map (Value.int .i64)⟩] := own7.ext
                      have ht8 : Ext wt w8 := Ext.trans e7 e8
                      refine wpAnyH_ready (rs := [24]) (by kernel_rfl) (by simp) ?_
                      refine AllReadyH.cons rfl (fun K hK => ?_) AllReadyH.nil
                      refine step_appI (by rfl) (.tmp 76) (.tmp 78) _ rfl elemInt rfl own8 ht8.below.size rfl u8 rfl (by omega) (by omega) ?_
                      intro v9 w9 o9 b9
                      obtain ⟨d9, m9, hv9⟩ := o9.form
                      obtain rfl : v9 = .slice d9 (L.length + 1) m9 := hv9
                      have own9 : Own w9 wt.heap.size [intRowOf 3 (.slice d9 (L.length + 1) m9) (L ++ [(l : Int)])] := by
                        unfold intRowOf
                        rw [List.length_append, List.map_append]
                        exact o9
                      have hL9 : IsInts w9 (.slice d9 (L.length + 1) m9) (L ++ [(l : Int)]) := own9.reads (by rw [List.length_append]; unfold Short; simp; omega) hLi9.out
                      clear o9 own9
                      have e9 : Ext wt w9 := ⟨ht8.below.trans b9⟩
                      have e69 : Ext wo w9 := Ext.trans et e9
                      refine hK.out _ _ (hbc.out w9 e69) (fun _ => ?_)
                      clear hK K
                      try simp only [List.getElem_toArray, List.getElem_cons_succ, List.getElem_cons_zero, Act.put, List.setIfInBounds_toArray, List.set_cons_zero, List.set_cons_succ]
                      refine wpAnyH_ready (rs := [25]) (by kernel_rfl) (by simp) ?_
                      refine AllReadyH.cons rfl (fun K hK => ?_) AllReadyH.nil
                      go_simp
                      go_at_call 31
                      with_reducible refine (hGo.out w9 (hSb.out w9 (Ext.trans e1o e69)).1 (hP1.ext (e := e69)) (hP2.ext (e := e69)) _ _ hL9 (by omega)).mono ?_
                      rintro e w10 ⟨b10, rfl, hb10, e10⟩
                      have eo10 : Ext wo w10 := Ext.trans e69 e10
                      replace hb10 := hid (hb10.trans hq.out.symm)
                      go_wp2_with fail
                      refine hK.out _ _ (hbc.out w10 eo10) (fun _ => ?_)
                      clear hK K
                      try simp only [List.getElem_toArray, List.getElem_cons_succ, List.getElem_cons_zero, Act.put, List.setIfInBounds_toArray, List.set_cons_zero, List.set_cons_succ]
                      cases b10 with
                      | false =>
                        have hnl := hid (show ¬ Bst a.length (flC M a X) X.length (a.length + X.length) (L ++ [(l : Int)]) from fun h => absurd (hb10.out.2 h) (by simp))
                        refine wpAnyH_take (i := 26) (v := .bool false) rfl (by kernel_rfl) (by kernel_rfl) (by kernel_rfl) (fun _ _ _ h => h) (Or.inl ⟨by rfl, by intro wx hx; go_simp⟩) (by assumption) ?_
                        try simp only [List.getElem_toArray, List.getElem_cons_succ, List.getElem_cons_zero, Act.put, List.setIfInBounds_toArray, List.set_cons_zero, List.set_cons_succ]
                        refine wpAnyH_done (by kernel_rfl) ?_ _
                        go_wp2_with fail
                        go_roundw
                        case rel => exact ⟨l + 1, rfl, by go_num, by omega, hid (fun l' hl' => by
                          by_cases q : l' < l
                          · exact hno.out l' q
                          · obtain rfl : l' = l := by omega
                            exact hnl.out), own.ext (w' := w10) (e := eo10), hb.trans (eo10.below.mono hBw), Nat.le_trans hBw eo10.below.size⟩
                        case measure => simp [intOf]; omega
                      | true =>
                        have hCh' := hid (hCh.out.step hlm (hb10.out.1 rfl) hno.out)
                        refine wpAnyH_take (i := 26) (v := .bool true) rfl (by kernel_rfl) (by kernel_rfl) (by kernel_rfl) (fun _ _ _ h => h) (Or.inl ⟨by rfl, by intro wx hx; go_simp⟩) (by assumption) ?_
                        try simp only [List.getElem_toArray, List.getElem_cons_succ, List.getElem_cons_zero, Act.put, List.setIfInBounds_toArray, List.set_cons_zero, List.set_cons_succ]
                        refine wpAnyH_done (by kernel_rfl) ?_ _
                        have own10 := own.ext (w' := w10) (e := eo10)
                        have hB10 : B ≤ w10.heap.size := Nat.le_trans hBw eo10.below.size
                        have hb10' := hb.trans (eo10.below.mono hBw)
                        have own11 : Own w10 B (⟨3, 1, .slice d i q, i, L.map (Value.int .i64)⟩ :: R2) := by
                          have h := own10
                          unfold intRowOf at h
                          rw [hLl.out] at h
                          exact h
                        go_wp2_with (at_builtin; refine wpList_append1 rfl (.tmp 82) (.tmp 84) _ rfl elemInt rfl own11 hB10 rfl rfl (by omega) (by omega) ?_; intro v1 w1' ho1 hb1; obtain ⟨d1, m1, hv1⟩ := ho1.form; (obtain rfl : v1 = .slice d1 (i + 1) m1 := hv1))
                        have o2 : Own w1' B (intRowOf 3 (.slice d1 (i + 1) m1) (L ++ [(l : Int)]) :: R2) := by
                          unfold intRowOf
                          rw [List.length_append, hLl.out, List.map_append]
                          exact ho1
                        go_roundw
                        case rel => exact ⟨i + 1, d1, m1, L ++ [(l : Int)], rfl, by go_num, by omega, hCh', o2, hb10'.trans hb1, Nat.le_trans hB10 hb1.size⟩
                        case measure => simp [intOf]; omega
                    · have e8 : Ext wt (wt.alloc (.cells #[.int .i64 l] 3)) := inferInstance
                      have u8 : (wt.alloc (.cells #[.int .i64 l] 3)).cell? ⟨wt.heap.size, 0, none⟩ = some (.int .i64 l) := by go_simp
                      go_simp
                      refine hK.out _ _ (hbc.out _ (Ext.trans et e8)) (fun _ => ?_)
                      clear hK K
                      try simp only [List.getElem_toArray, List.getElem_cons_succ, List.getElem_cons_zero, Act.put, List.setIfInBounds_toArray, List.set_cons_zero, List.set_cons_succ]
                      generalize wt.alloc (.cells #[.int .i64 l] 3) = w8 at *
                      generalize wt.heap.size = g8 at *
                      have e08 : Ext wo w8 := Ext.trans et e8
                      refine wpAnyH_ready (rs := [21]) (by kernel_rfl) (by simp) ?_
                      refine AllReadyH.cons rfl (fun K hK => ?_) AllReadyH.nil
                      go_simp
                      go_at_call 32
                      with_reducible refine (l1Own_any (w0 := wo) (w := w8) hLo).mono ?_
                      rintro e w7 ⟨d7, m7, rfl, own7, e7⟩
                      go_wp2_with fail
                      refine hK.out _ _ (hbc.out w7 (Ext.trans e08 e7)) (fun _ => ?_)
                      clear hK K
                      try simp only [List.getElem_toArray, List.getElem_cons_succ, List.getElem_cons_zero, Act.put, List.setIfInBounds_toArray, List.set_cons_zero, List.set_cons_succ]
                      have own8 : Own w7 w8.heap.size [⟨3, 1, .slice d7 L.length m7, L.length, L.map (Value.int .i64)⟩] := own7
                      refine wpAnyH_ready (rs := [24]) (by kernel_rfl) (by simp) ?_
                      refine AllReadyH.cons rfl (fun K hK => ?_) AllReadyH.nil
                      refine step_appI (by rfl) (.tmp 76) (.tmp 78) _ rfl elemInt rfl own8 e7.below.size rfl (e7.cell u8) rfl (by omega) (by omega) ?_
                      intro v9 w9 o9 b9
                      obtain ⟨d9, m9, hv9⟩ := o9.form
                      obtain rfl : v9 = .slice d9 (L.length + 1) m9 := hv9
                      have own9 : Own w9 w8.heap.size [intRowOf 3 (.slice d9 (L.length + 1) m9) (L ++ [(l : Int)])] := by
                        unfold intRowOf
                        rw [List.length_append, List.map_append]
                        exact o9
                      have hL9 : IsInts w9 (.slice d9 (L.length + 1) m9) (L ++ [(l : Int)]) := own9.reads (by rw [List.length_append]; unfold Short; simp; omega) hLi9.out
                      clear o9 own9
                      have e9 : Ext wt w9 := (Ext.trans e8 ⟨e7.below.trans b9⟩)
                      have e69 : Ext wo w9 := Ext.trans et e9
                      refine hK.out _ _ (hbc.out w9 e69) (fun _ => ?_)
                      clear hK K
                      try simp only [List.getElem_toArray, List.getElem_cons_succ, List.getElem_cons_zero, Act.put, List.setIfInBounds_toArray, List.set_cons_zero, List.set_cons_succ]
                      refine wpAnyH_ready (rs := [25]) (by kernel_rfl) (by simp) ?_
                      refine AllReadyH.cons rfl (fun K hK => ?_) AllReadyH.nil
                      go_simp
                      go_at_call 31
                      with_reducible refine (hGo.out w9 (hSb.out w9 (Ext.trans e1o e69)).1 (hP1.ext (e := e69)) (hP2.ext (e := e69)) _ _ hL9 (by omega)).mono ?_
                      rintro e w10 ⟨b10, rfl, hb10, e10⟩
                      have eo10 : Ext wo w10 := Ext.trans e69 e10
                      replace hb10 := hid (hb10.trans hq.out.symm)
                      go_wp2_with fail
                      refine hK.out _ _ (hbc.out w10 eo10) (fun _ => ?_)
                      clear hK K
                      try simp only [List.getElem_toArray, List.getElem_cons_succ, List.getElem_cons_zero, Act.put, List.setIfInBounds_toArray, List.set_cons_zero, List.set_cons_succ]
                      cases b10 with
                      | false =>
                        have hnl := hid (show ¬ Bst a.length (flC M a X) X.length (a.length + X.length) (L ++ [(l : Int)]) from fun h => absurd (hb10.out.2 h) (by simp))
                        refine wpAnyH_take (i := 26) (v := .bool false) rfl (by kernel_rfl) (by kernel_rfl) (by kernel_rfl) (fun _ _ _ h => h) (Or.inl ⟨by rfl, by intro wx hx; go_simp⟩) (by assumption) ?_
                        try simp only [List.getElem_toArray, List.getElem_cons_succ, List.getElem_cons_zero, Act.put, List.setIfInBounds_toArray, List.set_cons_zero, List.set_cons_succ]
                        refine wpAnyH_done (by kernel_rfl) ?_ _
                        go_wp2_with fail
                        go_roundw
                        case rel => exact ⟨l + 1, rfl, by go_num, by omega, hid (fun l' hl' => by
                          by_cases q : l' < l
                          · exact hno.out l' q
                          · obtain rfl : l' = l := by omega
                            exact hnl.out), own.ext (w' := w10) (e := eo10), hb.trans (eo10.below.mono hBw), Nat.le_trans hBw eo10.below.size⟩
                        case measure => simp [intOf]; omega
                      | true =>
                        have hCh' := hid (hCh.out.step hlm (hb10.out.1 rfl) hno.out)
                        refine wpAnyH_take (i := 26) (v := .bool true) rfl (by kernel_rfl) (by kernel_rfl) (by kernel_rfl) (fun _ _ _ h => h) (Or.inl ⟨by rfl, by intro wx hx; go_simp⟩) (by assumption) ?_
                        try simp only [List.getElem_toArray, List.getElem_cons_succ, List.getElem_cons_zero, Act.put, List.setIfInBounds_toArray, List.set_cons_zero, List.set_cons_succ]
                        refine wpAnyH_done (by kernel_rfl) ?_ _
                        have own10 := own.ext (w' := w10) (e := eo10)
                        have hB10 : B ≤ w10.heap.size := Nat.le_trans hBw eo10.below.size
                        have hb10' := hb.trans (eo10.below.mono hBw)
                        have own11 : Own w10 B (⟨3, 1, .slice d i q, i, L.map (Value.int .i64)⟩ :: R2) := by
                          have h := own10
                          unfold intRowOf at h
                          rw [hLl.out] at h
                          exact h
                        go_wp2_with (at_builtin; refine wpList_append1 rfl (.tmp 82) (.tmp 84) _ rfl elemInt rfl own11 hB10 rfl rfl (by omega) (by omega) ?_; intro v1 w1' ho1 hb1; obtain ⟨d1, m1, hv1⟩ := ho1.form; (obtain rfl : v1 = .slice d1 (i + 1) m1 := hv1))
                        have o2 : Own w1' B (intRowOf 3 (.slice d1 (i + 1) m1) (L ++ [(l : Int)]) :: R2) := by
                          unfold intRowOf
                          rw [List.length_append, hLl.out, List.map_append]
                          exact ho1
                        go_roundw
                        case rel => exact ⟨i + 1, d1, m1, L ++ [(l : Int)], rfl, by go_num, by omega, hCh', o2, hb10'.trans hb1, Nat.le_trans hB10 hb1.size⟩
                        case measure => simp [intOf]; omega
              · exfalso
                obtain ⟨x, hx, hBx⟩ := hnx.out
                have h1 := (hBx.in1 (by rw [hLl.out]; exact hlt)).1
                unfold alB at h1
                rw [hLl.out, decide_eq_true_iff] at h1
                exact hno.out x (by omega) hBx
          · obtain rfl : i = X.length := by omega
            have hLl := hid hCh.out.len
            have hLo : IsInts wo (.slice d X.length q) L := own.head1.reads (by rw [hLl.out]; unfold Short; omega) (fun x hx => by
              obtain ⟨j, hj, rfl⟩ := fw_mem hx
              rw [hLl.out] at hj
              have := hCh.out.nn j hj
              unfold I64; omega)
            have eF := (hSb.out wo (hE.out wo hb)).2.1
            go_wp2_with fail
            refine bodyPost_ret (v := .tuple #[.slice d X.length q, .bool true]) (by simp [results, Tryz.results11, go_sem]) rfl ?_
            exact ⟨d, q, L, by rw [hct.out, hLl.out], by rw [hLl.out]; exact hLo, hyes.out L hCh.out, eF⟩
      · have hcf := hid (show cb = false by rw [hcb.out, chB, hs2.out, decide_eq_false h24]; rfl)
        have h24' : (24 : Int) < (X.length : Int) := by omega
        have hno := hid (show OK [] by rw [hOK.out]; exact ChsOk.no (by rw [← hcb.out]; exact hcf.out))
        go_wp2_with fail
        with_reducible refine (l6Good_any (w0 := w0) hm').mono ?_
        rw [hM.out]
        rintro e w2 ⟨rfl, e2⟩
        have x2 := e2.cell xZ
        have e02 : Ext w0 w2 := Ext.trans e0Z e2
        go_wp2_with fail
        with_reducible refine (l6Start_any (w0 := w0) (w := w2) hm' ha' hX').mono ?_
        rw [hs2.out]
        rintro e w3 ⟨rfl, e3⟩
        go_wp2_with fail
        refine bodyPost_ret (v := .tuple #[.slice (some ⟨gz, 0, none⟩) 0 0, .bool false]) (by simp [results, Tryz.results11, go_sem]) rfl ?_
        exact ⟨_, 0, [], by rw [hcf.out]; rfl, iZ.ext (e := Ext.trans e2 e3), hno.out, Ext.trans eA (Ext.trans e2 e3)⟩
end Go.Proofs.YtllfchcocgdcjaaGreat
