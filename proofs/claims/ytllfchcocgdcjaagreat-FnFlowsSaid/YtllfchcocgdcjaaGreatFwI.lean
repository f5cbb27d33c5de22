/- The program's flows walked: FlowCost, ChainsOf. -/
import Derived.Test.YtllfchcocgdcjaaGreatFwH
import Derived.Test.YtllfchcocgdcjaaGreatLpI
namespace Go.Proofs.YtllfchcocgdcjaaGreat
open Go.RowKit

/-- the least cost of chains -/
def FcOk (M : List (List Int)) (a X : List Int) (v : Int) : Prop :=
  if srvB M a X = true then ∃ f, Mtc (Al a.length) X.length (a.length + X.length) f ∧ v = mcost (flC M a X) f X.length ∧ ∀ g, Mtc (Al a.length) X.length (a.length + X.length) g → mcost (flC M a X) f X.length ≤ mcost (flC M a X) g X.length else v = 0
theorem FcOk.no {M : List (List Int)} {a X : List Int} (h : srvB M a X = false) : FcOk M a X 0 := by unfold FcOk; rw [h]; rfl
theorem FcOk.uniq {M : List (List Int)} {a X : List Int} {v v' : Int} (h : FcOk M a X v) (h' : FcOk M a X v') : v = v' := by
  unfold FcOk at h h'
  by_cases hc : srvB M a X = true
  · rw [if_pos hc] at h h'
    obtain ⟨f, f1, rfl, f3⟩ := h
    obtain ⟨g, g1, rfl, g3⟩ := h'
    have := f3 g g1
    have := g3 f f1
    omega
  · rw [if_neg hc] at h h'
    rw [h, h']
def FcPost (M : List (List Int)) (a X : List Int) (w : World) (e : Ending) (w' : World) : Prop :=
  ∃ v : Int, e = .returned (.tuple #[.int .i64 v, .bool (srvB M a X)]) ∧ FcOk M a X v ∧ Ext w w'
/-- a table by a function -/
def tabF (c : Nat → Nat → Int) (n m : Nat) : List (List Int) := (List.range n).map fun j => (List.range m).map (c j)
theorem tabF_len (c : Nat → Nat → Int) (n m : Nat) : (tabF c n m).length = n := by simp [tabF]
theorem tabF_row {c : Nat → Nat → Int} {n m j : Nat} (h : j < n) : row (tabF c n m) j = (List.range m).map (c j) := by simp [tabF, row, h]
theorem assigned_of {d : Option Addr} {cp n m : Nat} {c : Nat → Nat → Int} {w0 w : World} [Ext w0 w] (hC : IsRows w0 (.slice d n cp) (tabF c n m)) (hnm : n ≤ m) (hm : m ≤ 900) (hcb : ∀ r l, r < n → l < m → 0 ≤ c r l ∧ c r l ≤ 1073741824) :
    Calls Tryz.prog 25 #[.slice d n cp] w (AsPost c n m w) := by
  by_cases h0 : n = 0
  · subst h0; exact assigned0_any w
  · have hcc : ∀ r l, r < n → l < m → nth (row (tabF c n m) r) l = c r l := fun r l hr hl => by rw [tabF_row hr, nth_range hl]
    refine (assigned_any (w0 := w0) (w := w) (C := tabF c n m) (n := n) (m := m) hC (tabF_len c n m) (fun r hr => by rw [tabF_row hr]; simp) (by omega) hnm hm (fun r l hr hl => by rw [hcc r l hr hl]; exact hcb r l hr hl)).mono ?_
    rintro e w' ⟨x, f, p, q, he, h1, h2, h3, h4, h5⟩
    refine ⟨x, f, p, q, ?_, h1, h2, ⟨⟨h3.1.1, fun i l hi hl ha => by rw [← hcc i l hi hl]; exact h3.1.2 i l hi hl ha⟩, fun i hi => by rw [← hcc i (f i) hi (h2.1 i hi).1]; exact h3.2.1 i hi, h3.2.2⟩, h4, h5⟩
    rw [he]
    have : mcost (fun r l => nth (row (tabF c n m) r) l) f n = mcost c f n := sgTo_congr fun i hi => hcc i (f i) hi (h2.1 i hi).1
    rw [this]
set_option maxHeartbeats 1600000 in
set_option maxRecDepth 100000 in
theorem implFc_any {v va vX : Value} {M : List (List Int)} {a X : List Int} {w0 w : World} [Ext w0 w] (hm : IsMet w0 v M) (ha : IsInts w0 va a) (hXi : IsInts w0 vX X) :
    Calls Tryz.prog 8 #[v, va, vX] w (FcPost M a X w) := by
  have hm' := hm
  obtain ⟨v1, rfl, hR⟩ := hm
  obtain ⟨a1, c1, rfl, l1⟩ := hR.form
  have ha' := ha
  obtain ⟨da, ma, rfl, la⟩ := ha.form
  have hX' := hXi
  obtain ⟨dx, mx, rfl, lx⟩ := hXi.form
  go_enter Tryz.func8, Tryz.ntmps8
  go_upto_region 1 with fail
  have e1 : Ext w (w.alloc (.cells #[.slice a1 M.length c1] 26)) := inferInstance
  have x0 : (w.alloc (.cells #[.slice a1 M.length c1] 26)).cell? ⟨w.heap.size, 0, none⟩ = some (.slice a1 M.length c1) := by go_simp
  obtain ⟨bx, hbx⟩ : ∃ q, q = w.heap.size := ⟨_, rfl⟩
  rw [← hbx] at x0 ⊢
  generalize w.alloc (.cells #[.slice a1 M.length c1] 26) = w1 at *
  replace hbx := hid hbx
  have e01 : Ext w0 w1 := Ext.trans ‹Ext w0 w› e1
  cases hs : srvB M a X with
  | false =>
    have hno := hid (FcOk.no hs)
    replace hs := hid hs
    go_wp2_with fail
    with_reducible refine (isServed_any (w0 := w0) hm' ha' hX').mono ?_
    rw [hs.out]
    rintro e w2 ⟨rfl, e2⟩
    go_wp2_with fail
    go_ret2
    exact ⟨0, by rw [hs.out]; rfl, hno.out, Ext.trans e1 e2⟩
  | true =>
    obtain ⟨hM, hal, hab, hXb, hXl⟩ := srv_pts hs
    have hs2 := hid hs
    have hcb := hid (fun (i l : Nat) (hi : i < X.length) (hl : l < a.length + X.length) => flC_bd hM hab hXb (i := i) (k := l) hi hl)
    clear hs
    replace hM := hid hM
    replace hab := hid hab
    replace hXb := hid hXb
    go_wp2_with fail
    with_reducible refine (isServed_any (w0 := w0) hm' ha' hX').mono ?_
    rw [hs2.out]
    rintro e w2 ⟨rfl, e2⟩
    have x2 := e2.cell x0
    have e12 : Ext w w2 := Ext.trans e1 e2
    have e02 : Ext w0 w2 := Ext.trans ‹Ext w0 w› e12
    go_wp2_with fail
    with_reducible refine (flowOf_any (w0 := w0) (w := w2) hm' ha' hX' hM.out hab.out hXb.out hal hXl).mono ?_
    rintro e w3 ⟨bp, cv, B, rfl, tab, hB, e3⟩
    have e13 : Ext w w3 := Ext.trans e12 e3
    have y1 : w3.cell? ⟨bp, 1, none⟩ = some cv := (tab.boxAt (j := 1) (by omega)).1
    have hF : IsRows w3 cv (flL M a X) := tab.reads (by unfold ShortRows; rw [flL_len]; omega) (fun r hr => by
      obtain ⟨i, hi, rfl⟩ := List.mem_map.1 hr
      unfold Short; rw [flRow_len]; omega) (flL_i64 hM.out hab.out hXb.out)
    obtain ⟨dF, nF, mF, rfl, hnF⟩ := tab.formN
    have hnX : nF = X.length := by rw [hnF.out, flL_len]
    subst hnX
    clear tab hnF x2 x0
    have hAs := hid (assigned_of (c := flC M a X) (n := X.length) (m := a.length + X.length) (w0 := w3) (w := w3) hF (by omega) (by omega) (fun r l hr hl => by
      have := hcb.out r l hr hl
      omega))
    go_wp2_with fail
    with_reducible refine hAs.out.mono ?_
    rintro e w4 ⟨xb, f, p, q, rfl, hbf, hf, hc, hpb, e4⟩
    have hA := hid (al_of hs2.out hf hc)
    have hfc := hid (show FcOk M a X (mcost (flC M a X) f X.length) by
      unfold FcOk
      rw [if_pos hs2.out]
      exact ⟨f, hA.out.1, rfl, fun g hg => hA.out.2.opt hA.out.1 hg⟩)
    clear hbf hf hc hpb
    go_wp2_with fail
    go_ret2
    exact ⟨_, by rw [hs2.out]; rfl, hfc.out, Ext.trans e13 e4⟩
end Go.Proofs.YtllfchcocgdcjaaGreat
