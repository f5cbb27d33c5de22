/- What edges join, as the program finds it: sideOf. -/
import Derived.Test.YtnlbjbnjjkilhaaCur
import Derived.Test.YtnlbjbnjjkilhaaTsC
import Derived.Test.YtnlbjbnjjkilhaaRis
namespace Go.Proofs.Ytnlbjbnjjkilhaa
open Go.RowKit

set_option maxHeartbeats 800000 in
theorem risingT_any {v : Value} {xs : List Int} {w0 w : World} [Ext w0 w] (hx : IsInts w0 v xs) :
    Calls Try.prog 60 #[v] w fun e w' => ∃ d m, e = .returned (.slice d (difL xs).length m) ∧ Own w' w.heap.size [intRowOf 3 (.slice d (difL xs).length m) (difL xs)] ∧ Ext w w' := by
  have hx' := hx
  obtain ⟨a, c, rfl, la⟩ := hx.form
  go_enter Try.func60, Try.ntmps60
  go_wp2_with fail
  with_reducible refine (cloneInts_any (w0 := w0) hx').mono ?_
  rintro e w1 ⟨d, m, rfl, own1, e1⟩
  have hB1 := e1.size
  go_wp2_with fail
  with_reducible refine (sort_any own1 hB1 la).mono ?_
  rintro e w2 ⟨rfl, own2, b2⟩
  go_wp2_with fail
  with_reducible refine (compact_any own2 (by rw [sortL_len]; exact la)).mono ?_
  rintro e w3 ⟨u, rfl, own3, b3⟩
  rw [compact_sortL] at own3
  obtain ⟨d3, m3, h3⟩ := own3.form
  have h3' : u = .slice d3 (difL xs).length m3 := h3
  subst h3'
  go_wp2_with fail
  go_ret
  exact ⟨_, _, rfl, own3, ⟨e1.below.trans (b2.trans b3)⟩⟩
theorem info46 : (Try.prog.info? 46).map (fun i => (i.zero, i.size, i.bytes)) = some (some (.agg #[.int .i64 0, .int .i64 0]), 2, 16) := by kernel_rfl
/-- what the two halves of a step make of what has been found -/
def adK (O : List Int) (p A1 A2 : Int) : Nat → List Int
  | 0 => O
  | 1 => adP O p A1 A2
  | _ => adP (adP O p A1 A2) p A2 A1
set_option maxHeartbeats 3200000 in
set_option maxRecDepth 100000 in
theorem sideOf_any {E : List (Nat × Nat)} {n x : Nat} {v : Value} {w0 w : World} [Ext w0 w] (hF : IsFlat w0 v 2 (edR E)) (hn : n ≤ 1000) (hx : x < n) (hlt : ∀ e, e ∈ E → e.1 < n ∧ e.2 < n) :
    Calls Try.prog 40 #[v, .int .i64 x] w fun e w' => ∃ d m l, e = .returned (.slice d l.length m) ∧ SdL E x l ∧ IsInts w' (.slice d l.length m) l ∧
      Own w' w.heap.size [intRowOf 3 (.slice d l.length m) l] ∧ Ext w w' := by
  obtain ⟨a, c, rfl, lF⟩ := hF.form
  rw [edR_len] at lF ⊢
  have hF' : IsFlat w0 (.slice a E.length c) 2 (edR E) := by rw [← edR_len]; exact hF
  clear hF
  have hE := hid (show ∀ e, e ∈ E → ∃ q : Nat, E[q]? = some e ∧ (q : Int) ≠ -1 from fun e he => by
    obtain ⟨q, hq⟩ := List.mem_iff_getElem?.1 he
    exact ⟨q, hq, by omega⟩)
  replace hlt := hid hlt
  go_enter Try.func40, Try.ntmps40
  go_upto_region 2 with fail
  have own0 : Own (w.alloc (.cells #[.int .i64 x] 3)) w.heap.size [intRowOf 3 (.slice (some ⟨w.heap.size, 0, none⟩) 1 1) [(x : Int)]] :=
    Own.litInts (W := w) (B := w.heap.size) (e := 3) (cs := #[.int .i64 x]) (xs := [(x : Int)]) (Nat.le_refl _) rfl rfl (by simp) (n := 1) rfl
  have e0 : Ext w (w.alloc (.cells #[.int .i64 x] 3)) := inferInstance
  generalize w.alloc (.cells #[.int .i64 x] 3) = W at *
  generalize hg0 : w.heap.size = B at *
  replace hg0 := hid hg0
  have hBW : B ≤ W.heap.size := by have := e0.size; have := hg0.out; omega
  have hE2 := hid (show ∀ u, Below B W u → Ext w u from fun u h => ⟨by rw [hg0.out]; exact (by have := e0.below; rw [hg0.out] at this; exact this.trans h)⟩)
  go_upto_region 3 with fail
  go_loopw [5, 6] (fun ov iv wr => ∃ (i : Nat) (dO : Option Addr) (lO mO : Nat) (O : List Int), ov = .slice dO lO mO ∧ iv = .int .i64 i ∧ i ≤ lO ∧ Hid (lO = O.length) ∧ Hid (BSt E E (-1) n x O i 0) ∧ Own wr B [intRowOf 3 (.slice dO lO mO) O] ∧ Below B W wr) (fun _ iv _ => n - (intOf iv).toNat)
  case atStart => exact ⟨0, _, 1, 1, [(x : Int)], rfl, rfl, by omega, hid rfl, hid (BSt.begin hx), own0, Below.refl _ _⟩
  case round =>
    obtain ⟨i, dO, lO, mO, O, rfl, rfl, hi, hlO, hB0, hown, hb0⟩ := hrel
    obtain ⟨wr0, rfl⟩ : ∃ y : World, y = wr := ⟨_, rfl⟩
    by_cases hil : i < lO
    · have hin : i < n := by have := hB0.out.len; have := hlO.out; omega
      go_upto_region 6 with fail
      go_loopw [5, 20] (fun ov kv wr => ∃ (k : Nat) (dO : Option Addr) (lO mO : Nat) (O : List Int), ov = .slice dO lO mO ∧ kv = .int .i64 k ∧ k ≤ E.length ∧ i < lO ∧ Hid (lO = O.length) ∧ Hid (BSt E E (-1) n x O i k) ∧ Own wr B [intRowOf 3 (.slice dO lO mO) O] ∧ Below B W wr) (fun _ kv _ => E.length - (intOf kv).toNat)
      case atStart => exact ⟨0, _, _, _, _, rfl, rfl, by omega, hil, hlO, hB0, hown, hb0⟩
      case round =>
        clear hown hb0 hB0 hlO hil hi
        obtain ⟨k, dO, lO, mO, O, rfl, rfl, hk, hi, hlO, hB0, hown, hb0⟩ := hrel
        obtain ⟨wr0, rfl⟩ : ∃ y : World, y = wr := ⟨_, rfl⟩
        by_cases hkl : k < E.length
        · obtain ⟨e, he⟩ : ∃ e, E[k]? = some e := ⟨_, List.getElem?_eq_getElem hkl⟩
          have heF : e ∈ E := List.mem_of_getElem? he
          have hst := hB0.out.step (by rw [← hlO.out]; exact hi) he (by omega) heF (hlt.out e heF)
          have had := hB0.out.add (by rw [← hlO.out]; exact hi) (a := e.1) (b := e.2) (hlt.out e heF).2 (.inl heF)
          obtain ⟨p, hp⟩ : ∃ p, p = nth O i := ⟨_, rfl⟩
          rw [← hp] at hst had
          obtain ⟨bF, oF, hda, c0, c1⟩ := edge_at hF' (w' := wr0) (e := Ext.trans ‹Ext w0 w› (hE2.out wr0 hb0)) he
          subst hda
          have hBo := Nat.le_trans hBW hb0.size
          generalize (e.1 : Int) = A1 at *
          generalize (e.2 : Int) = A2 at *
          clear heF he
          go_upto_region 8 with fail
          have ownE : Own (wr0.alloc (.cells #[.int .i64 A1, .int .i64 A2] 46)) B (intRowOf 3 (.slice dO lO mO) O :: [⟨46, 2, .slice (some ⟨wr0.heap.size, 0, none⟩) 1 1, 1, [.int .i64 A1, .int .i64 A2]⟩]) :=
            (hown.lit 46 2 1 #[.int .i64 A1, .int .i64 A2] hBo (by unfold maxLen; omega) rfl).perm (List.Perm.swap _ _ _)
          have hbE : Below B W (wr0.alloc (.cells #[.int .i64 A1, .int .i64 A2] 46)) := hb0.alloc hBo _
          generalize wr0.alloc (.cells #[.int .i64 A1, .int .i64 A2] 46) = w1 at *
          generalize wr0.heap.size = gE at *
          obtain ⟨O0, hO0⟩ : ∃ Z, Z = O := ⟨_, rfl⟩
          have hstF := hid hst
          have hB00 := hid hB0.out
          have hB01 := hid had
          have hp0 := hid hp.symm
          have hp1 := hid (show nth (adP O p A1 A2) i = p by rw [adP_nth (by rw [← hlO.out]; exact hi)]; exact hp.symm)
          rw [← hO0] at hstF hB00 hB01 hp0 hp1
          clear hst had hp hB0
          go_upto_region 9 with fail
          go_loopw [5, 24] (fun ov kv wr => ∃ (q : Nat) (dO : Option Addr) (lO mO : Nat) (O : List Int), ov = .slice dO lO mO ∧ kv = .int .i64 q ∧ q ≤ 2 ∧ i < lO ∧ Hid (lO = O.length) ∧ Hid (O = adK O0 p A1 A2 q) ∧ Own wr B (intRowOf 3 (.slice dO lO mO) O :: [⟨46, 2, .slice (some ⟨gE, 0, none⟩) 1 1, 1, [.int .i64 A1, .int .i64 A2]⟩]) ∧ Below B W wr) (fun _ kv _ => 2 - (intOf kv).toNat)
          case atStart => exact ⟨0, _, _, _, _, rfl, rfl, by omega, hi, hlO, hid hO0.symm, ownE, hbE⟩
          case round =>
            clear ownE hbE hlO hO0 hi hown hb0 c0 c1 hBo
            obtain ⟨q, dO, lO, mO, O, rfl, rfl, hq, hi, hlO, hOq, own, hb⟩ := hrel
            obtain ⟨wp, rfl⟩ : ∃ y : World, y = wr := ⟨_, rfl⟩
            by_cases hq2 : q < 2
            · have hq01 : q = 0 ∨ q = 1 := by omega
              rcases hq01 with rfl | rfl
              · obtain rfl : O = O0 := hOq.out
                have hB0 := hB00
                have hp := hp0
                have hlO16 : lO ≤ 1000 := by have := hB0.out.len; have := hlO.out; omega
                have hstep := hid (show adP O p A1 A2 = adK O p A1 A2 (0 + 1) from rfl)
                have hr : IsInts wp (.slice dO lO mO) O := by
                  have h := hB0.out.reads hn hlO.out own
                  rw [← hlO.out] at h
                  exact h
                obtain ⟨bO, oO, hdO, hcO⟩ := hr.at (w' := wp) (k := i) (by rw [← hlO.out]; exact hi)
                cases hdO
                rw [hp.out] at hcO
                have cA : wp.cell? ⟨gE, 0, none⟩ = some (.int .i64 A1) := ow_cell own (.tail _ (.head _)) (j := 0) (by omega)
                have cB : wp.cell? ⟨gE, 1, none⟩ = some (.int .i64 A2) := ow_cell own (.tail _ (.head _)) (j := 1) (by omega)
                have ed : Ext wp wp.drew := inferInstance
                have cAd := ed.cell cA
                have cBd := ed.cell cB
                have cOd := ed.cell hcO
                have hHc := hid (fun (u : World) (e : Ext wp u) (y : Int) => @sContains_any (.slice (some ⟨bO, oO, none⟩) lO mO) O y wp u e hr)
                have ownd := own.ext (w' := wp.drew) (e := ed)
                have hbd := hb.trans (ed.below.mono (Nat.le_trans hBW hb.size))
                go_upto_region 11 with fail
                refine wp_region_held_drew (S := fun u => u.cell? ⟨gE, 0, none⟩ = some (.int .i64 A1) ∧ u.cell? ⟨gE, 1, none⟩ = some (.int .i64 A2) ∧ u.cell? ⟨bO, oO + i, none⟩ = some (.int .i64 p)) (by kernel_rfl) ⟨cAd, cBd, cOd⟩ (fun hHeld0 => ?_)
                generalize hwd : wp.drew = wd at *
                refine wpAnyH_take (i := 0) (v := .int .i64 0) rfl (by kernel_rfl) (by kernel_rfl) (by kernel_rfl) (fun _ _ _ h => h) (Or.inl ⟨by rfl, by intro wx hx; go_simp⟩) (by assumption) ?_
                try simp only [List.getElem_toArray, List.getElem_cons_zero, Act.put, List.setIfInBounds_toArray, List.set_cons_zero, List.set_cons_succ]
                refine wpAnyH_take (i := 1) (v := .pointer (some ⟨gE, 0, none⟩)) rfl (by kernel_rfl) (by kernel_rfl) (by kernel_rfl) (fun _ _ _ h => h) (Or.inl ⟨by rfl, by intro wx hx; go_simp⟩) (by assumption) ?_
                try simp only [List.getElem_toArray, List.getElem_cons_succ, List.getElem_cons_zero, Act.put, List.setIfInBounds_toArray, List.set_cons_zero, List.set_cons_succ]
                refine wpAnyH_take (i := 2) (v := .int .i64 A1) rfl (by kernel_rfl) (by kernel_rfl) (by kernel_rfl) (fun _ _ _ h => h) (Or.inl ⟨by rfl, by intro wx hx; obtain ⟨_, _, _⟩ := hx; go_simp⟩) (by assumption) ?_
                try simp only [List.getElem_toArray, List.getElem_cons_succ, List.getElem_cons_zero, Act.put, List.setIfInBounds_toArray, List.set_cons_zero, List.set_cons_succ]
                refine wpAnyH_take (i := 3) (v := .slice (some ⟨bO, oO, none⟩) lO mO) rfl (by kernel_rfl) (by kernel_rfl) (by kernel_rfl) (fun _ _ _ h => h) (Or.inl ⟨by rfl, by intro wx hx; go_simp⟩) (by assumption) ?_
                try simp only [List.getElem_toArray, List.getElem_cons_succ, List.getElem_cons_zero, Act.put, List.setIfInBounds_toArray, List.set_cons_zero, List.set_cons_succ]
                refine wpAnyH_take (i := 4) (v := .int .i64 i) rfl (by kernel_rfl) (by kernel_rfl) (by kernel_rfl) (fun _ _ _ h => h) (Or.inl ⟨by rfl, by intro wx hx; go_simp⟩) (by assumption) ?_
                try simp only [List.getElem_toArray, List.getElem_cons_succ, List.getElem_cons_zero, Act.put, List.setIfInBounds_toArray, List.set_cons_zero, List.set_cons_succ]
                refine wpAnyH_take (i := 5) (v := .pointer (some ⟨bO, oO + i, none⟩)) rfl (by kernel_rfl) (by kernel_rfl) (by kernel_rfl) (fun _ _ _ h => h) (Or.inl ⟨by rfl, by intro wx hx; go_simp⟩) (by assumption) ?_
                try simp only [List.getElem_toArray, List.getElem_cons_succ, List.getElem_cons_zero, Act.put, List.setIfInBounds_toArray, List.set_cons_zero, List.set_cons_succ]
                refine wpAnyH_take (i := 6) (v := .int .i64 p) rfl (by kernel_rfl) (by kernel_rfl) (by kernel_rfl) (fun _ _ _ h => h) (Or.inl ⟨by rfl, by intro wx hx; obtain ⟨_, _, _⟩ := hx; go_simp⟩) (by assumption) ?_
                try simp only [List.getElem_toArray, List.getElem_cons_succ, List.getElem_cons_zero, Act.put, List.setIfInBounds_toArray, List.set_cons_zero, List.set_cons_succ]
                by_cases h1 : A1 = p
                · have hq1 : (A1 == p) = true := beq_iff_eq.2 h1
                  replace h1 := hid h1
                  cases hh1 : hasB O A2 with
                  | true =>
                    have hst := hstep.out
                    rw [adP_has hh1] at hst
                    replace hst := hid hst
                    refine wpAnyH_take (i := 7) (v := .bool true) rfl (by kernel_rfl) (by kernel_rfl) (by kernel_rfl) (fun _ _ _ h => h) (Or.inl ⟨by rfl, by intro wx hx; go_simp⟩) (by assumption) ?_
                    try simp only [List.getElem_toArray, List.getElem_cons_succ, List.getElem_cons_zero, Act.put, List.setIfInBounds_toArray, List.set_cons_zero, List.set_cons_succ]
                    refine wpAnyH_take (i := 8) (v := .bool true) rfl (by kernel_rfl) (by kernel_rfl) (by kernel_rfl) (fun _ _ _ h => h) (Or.inl ⟨by rfl, by intro wx hx; go_simp⟩) (by assumption) ?_
                    try simp only [List.getElem_toArray, List.getElem_cons_succ, List.getElem_cons_zero, Act.put, List.setIfInBounds_toArray, List.set_cons_zero, List.set_cons_succ]
                    refine wpAnyH_take (i := 9) (v := .slice (some ⟨bO, oO, none⟩) lO mO) rfl (by kernel_rfl) (by kernel_rfl) (by kernel_rfl) (fun _ _ _ h => h) (Or.inl ⟨by rfl, by intro wx hx; go_simp⟩) (by assumption) ?_
                    try simp only [List.getElem_toArray, List.getElem_cons_succ, List.getElem_cons_zero, Act.put, List.setIfInBounds_toArray, List.set_cons_zero, List.set_cons_succ]
                    refine wpAnyH_take (i := 10) (v := .int .i64 0) rfl (by kernel_rfl) (by kernel_rfl) (by kernel_rfl) (fun _ _ _ h => h) (Or.inl ⟨by rfl, by intro wx hx; go_simp⟩) (by assumption) ?_
                    try simp only [List.getElem_toArray, List.getElem_cons_succ, List.getElem_cons_zero, Act.put, List.setIfInBounds_toArray, List.set_cons_zero, List.set_cons_succ]
                    refine wpAnyH_take (i := 11) (v := .int .i64 1) rfl (by kernel_rfl) (by kernel_rfl) (by kernel_rfl) (fun _ _ _ h => h) (Or.inl ⟨by rfl, by intro wx hx; go_simp <;> rfl⟩) (by assumption) ?_
                    try simp only [List.getElem_toArray, List.getElem_cons_succ, List.getElem_cons_zero, Act.put, List.setIfInBounds_toArray, List.set_cons_zero, List.set_cons_succ]
                    refine wpAnyH_take (i := 12) (v := .pointer (some ⟨gE, 1, none⟩)) rfl (by kernel_rfl) (by kernel_rfl) (by kernel_rfl) (fun _ _ _ h => h) (Or.inl ⟨by rfl, by intro wx hx; go_simp⟩) (by assumption) ?_
                    try simp only [List.getElem_toArray, List.getElem_cons_succ, List.getElem_cons_zero, Act.put, List.setIfInBounds_toArray, List.set_cons_zero, List.set_cons_succ]
                    refine wpAnyH_take (i := 13) (v := .int .i64 A2) rfl (by kernel_rfl) (by kernel_rfl) (by kernel_rfl) (fun _ _ _ h => h) (Or.inl ⟨by rfl, by intro wx hx; obtain ⟨_, _, _⟩ := hx; go_simp⟩) (by assumption) ?_
                    try simp only [List.getElem_toArray, List.getElem_cons_succ, List.getElem_cons_zero, Act.put, List.setIfInBounds_toArray, List.set_cons_zero, List.set_cons_succ]
                    refine wpAnyH_ready (rs := [14]) (by kernel_rfl) (by simp) ?_
                    refine AllReadyH.cons rfl (fun K hK => ?_) AllReadyH.nil
                    go_simp
                    go_at_call 55
                    with_reducible refine (hHc.out wd ed A2).mono ?_
                    rw [hh1]
                    rintro e w3 ⟨rfl, rfl⟩
                    go_wp2_with fail
                    refine hK.out _ _ ⟨cAd, cBd, cOd⟩ (fun _ => ?_)
                    clear hK K
                    try simp only [List.getElem_toArray, List.getElem_cons_succ, List.getElem_cons_zero, Act.put, List.setIfInBounds_toArray, List.set_cons_zero, List.set_cons_succ]
                    refine wpAnyH_take (i := 15) (v := .bool false) rfl (by kernel_rfl) (by kernel_rfl) (by kernel_rfl) (fun _ _ _ h => h) (Or.inl ⟨by rfl, by intro wx hx; go_simp⟩) (by assumption) ?_
                    try simp only [List.getElem_toArray, List.getElem_cons_succ, List.getElem_cons_zero, Act.put, List.setIfInBounds_toArray, List.set_cons_zero, List.set_cons_succ]
                    refine wpAnyH_take (i := 16) (v := .bool false) rfl (by kernel_rfl) (by kernel_rfl) (by kernel_rfl) (fun _ _ _ h => h) (Or.inl ⟨by rfl, by intro wx hx; go_simp⟩) (by assumption) ?_
                    try simp only [List.getElem_toArray, List.getElem_cons_succ, List.getElem_cons_zero, Act.put, List.setIfInBounds_toArray, List.set_cons_zero, List.set_cons_succ]
                    refine wpAnyH_done (by kernel_rfl) ?_ _
                    replace hh1 := hid hh1
                    go_wp2_with fail
                    go_roundw
                    case rel => exact ⟨0 + 1, _, _, _, _, rfl, by first | rfl | go_num, by omega, hi, hlO, hid hst.out, ownd, hbd⟩
                    case measure => simp [intOf]
                  | false =>
                    have hst := hstep.out
                    rw [adP_put h1.out hh1] at hst
                    replace hst := hid hst
                    refine wpAnyH_take (i := 7) (v := .bool true) rfl (by kernel_rfl) (by kernel_rfl) (by kernel_rfl) (fun _ _ _ h => h) (Or.inl ⟨by rfl, by intro wx hx; go_simp⟩) (by assumption) ?_
                    try simp only [List.getElem_toArray, List.getElem_cons_succ, List.getElem_cons_zero, Act.put, List.setIfInBounds_toArray, List.set_cons_zero, List.set_cons_succ]
                    refine wpAnyH_take (i := 8) (v := .bool true) rfl (by kernel_rfl) (by kernel_rfl) (by kernel_rfl) (fun _ _ _ h => h) (Or.inl ⟨by rfl, by intro wx hx; go_simp⟩) (by assumption) ?_
                    try simp only [List.getElem_toArray, List.getElem_cons_succ, List.getElem_cons_zero, Act.put, List.setIfInBounds_toArray, List.set_cons_zero, List.set_cons_succ]
                    refine wpAnyH_take (i := 9) (v := .slice (some ⟨bO, oO, none⟩) lO mO) rfl (by kernel_rfl) (by kernel_rfl) (by kernel_rfl) (fun _ _ _ h => h) (Or.inl ⟨by rfl, by intro wx hx; go_simp⟩) (by assumption) ?_
                    try simp only [List.getElem_toArray, List.getElem_cons_succ, List.getElem_cons_zero, Act.put, List.setIfInBounds_toArray, List.set_cons_zero, List.set_cons_succ]
                    refine wpAnyH_take (i := 10) (v := .int .i64 0) rfl (by kernel_rfl) (by kernel_rfl) (by kernel_rfl) (fun _ _ _ h => h) (Or.inl ⟨by rfl, by intro wx hx; go_simp⟩) (by assumption) ?_
                    try simp only [List.getElem_toArray, List.getElem_cons_succ, List.getElem_cons_zero, Act.put, List.setIfInBounds_toArray, List.set_cons_zero, List.set_cons_succ]
                    refine wpAnyH_take (i := 11) (v := .int .i64 1) rfl (by kernel_rfl) (by kernel_rfl) (by kernel_rfl) (fun _ _ _ h => h) (Or.inl ⟨by rfl, by intro wx hx; go_simp <;> rfl⟩) (by assumption) ?_
                    try simp only [List.getElem_toArray, List.getElem_cons_succ, List.getElem_cons_zero, Act.put, List.setIfInBounds_toArray, List.set_cons_zero, List.set_cons_succ]
                    refine wpAnyH_take (i := 12) (v := .pointer (some ⟨gE, 1, none⟩)) rfl (by kernel_rfl) (by kernel_rfl) (by kernel_rfl) (fun _ _ _ h => h) (Or.inl ⟨by rfl, by intro wx hx; go_simp⟩) (by assumption) ?_
                    try simp only [List.getElem_toArray, List.getElem_cons_succ, List.getElem_cons_zero, Act.put, List.setIfInBounds_toArray, List.set_cons_zero, List.set_cons_succ]
                    refine wpAnyH_take (i := 13) (v := .int .i64 A2) rfl (by kernel_rfl) (by kernel_rfl) (by kernel_rfl) (fun _ _ _ h => h) (Or.inl ⟨by rfl, by intro wx hx; obtain ⟨_, _, _⟩ := hx; go_simp⟩) (by assumption) ?_
                    try simp only [List.getElem_toArray, List.getElem_cons_succ, List.getElem_cons_zero, Act.put, List.setIfInBounds_toArray, List.set_cons_zero, List.set_cons_succ]
                    refine wpAnyH_ready (rs := [14]) (by kernel_rfl) (by simp) ?_
                    refine AllReadyH.cons rfl (fun K hK => ?_) AllReadyH.nil
                    go_simp
                    go_at_call 55
                    with_reducible refine (hHc.out wd ed A2).mono ?_
                    rw [hh1]
                    rintro e w3 ⟨rfl, rfl⟩
                    go_wp2_with fail
                    refine hK.out _ _ ⟨cAd, cBd, cOd⟩ (fun _ => ?_)
                    clear hK K
                    try simp only [List.getElem_toArray, List.getElem_cons_succ, List.getElem_cons_zero, Act.put, List.setIfInBounds_toArray, List.set_cons_zero, List.set_cons_succ]
                    refine wpAnyH_take (i := 15) (v := .bool true) rfl (by kernel_rfl) (by kernel_rfl) (by kernel_rfl) (fun _ _ _ h => h) (Or.inl ⟨by rfl, by intro wx hx; go_simp⟩) (by assumption) ?_
                    try simp only [List.getElem_toArray, List.getElem_cons_succ, List.getElem_cons_zero, Act.put, List.setIfInBounds_toArray, List.set_cons_zero, List.set_cons_succ]
                    refine wpAnyH_take (i := 16) (v := .bool true) rfl (by kernel_rfl) (by kernel_rfl) (by kernel_rfl) (fun _ _ _ h => h) (Or.inl ⟨by rfl, by intro wx hx; go_simp⟩) (by assumption) ?_
                    try simp only [List.getElem_toArray, List.getElem_cons_succ, List.getElem_cons_zero, Act.put, List.setIfInBounds_toArray, List.set_cons_zero, List.set_cons_succ]
                    refine wpAnyH_done (by kernel_rfl) ?_ _
                    replace hh1 := hid hh1
                    have hB2 := Nat.le_trans hBW hbd.size
                    have ownA : Own wd B (⟨3, 1, .slice (some ⟨bO, oO, none⟩) lO mO, lO, O.map (Value.int .i64)⟩ :: [⟨46, 2, .slice (some ⟨gE, 0, none⟩) 1 1, 1, [.int .i64 A1, .int .i64 A2]⟩]) := by
                      have h := ownd
                      unfold intRowOf at h
                      rw [← hlO.out] at h
                      exact h
                    go_wp2_with (at_builtin; refine wpList_append1 rfl _ _ _ rfl elemInt rfl ownA hB2 rfl rfl (by omega) (by omega) ?_; intro v1 w5 ho hb5; obtain ⟨vd, vm, hv1⟩ := ho.form; (obtain rfl : v1 = .slice vd (lO + 1) vm := hv1))
                    have own5 := own_app1 ho hlO.out
                    have hbl5 := hbd.trans hb5
                    have hlZ := hid (show lO + 1 = (O ++ [A2]).length by rw [List.length_append, ← hlO.out]; rfl)
                    go_roundw
                    case rel => exact ⟨0 + 1, _, _, _, _, rfl, by first | rfl | go_num, by omega, (Nat.lt_succ_of_lt hi), hlZ, hid hst.out, own5, hbl5⟩
                    case measure => simp [intOf]
                · have hq1 : (A1 == p) = false := beq_eq_false_iff_ne.2 h1
                  have hst := hstep.out
                  rw [adP_ne h1] at hst
                  replace hst := hid hst
                  refine wpAnyH_take (i := 7) (v := .bool false) rfl (by kernel_rfl) (by kernel_rfl) (by kernel_rfl) (fun _ _ _ h => h) (Or.inl ⟨by rfl, by intro wx hx; go_simp⟩) (by assumption) ?_
                  try simp only [List.getElem_toArray, List.getElem_cons_succ, List.getElem_cons_zero, Act.put, List.setIfInBounds_toArray, List.set_cons_zero, List.set_cons_succ]
                  refine wpAnyH_take (i := 8) (v := .bool false) rfl (by kernel_rfl) (by kernel_rfl) (by kernel_rfl) (fun _ _ _ h => h) (Or.inl ⟨by rfl, by intro wx hx; go_simp⟩) (by assumption) ?_
                  try simp only [List.getElem_toArray, List.getElem_cons_succ, List.getElem_cons_zero, Act.put, List.setIfInBounds_toArray, List.set_cons_zero, List.set_cons_succ]
                  refine wpAnyH_take (i := 9) (v := undef) rfl (by kernel_rfl) (by kernel_rfl) (by kernel_rfl) (fun _ _ _ h => h) (Or.inr ⟨by kernel_rfl, rfl⟩) (by assumption) ?_
                  try simp only [List.getElem_toArray, List.getElem_cons_succ, List.getElem_cons_zero, Act.put, List.setIfInBounds_toArray, List.set_cons_zero, List.set_cons_succ]
                  refine wpAnyH_take (i := 10) (v := undef) rfl (by kernel_rfl) (by kernel_rfl) (by kernel_rfl) (fun _ _ _ h => h) (Or.inr ⟨by kernel_rfl, rfl⟩) (by assumption) ?_
                  try simp only [List.getElem_toArray, List.getElem_cons_succ, List.getElem_cons_zero, Act.put, List.setIfInBounds_toArray, List.set_cons_zero, List.set_cons_succ]
                  refine wpAnyH_take (i := 11) (v := undef) rfl (by kernel_rfl) (by kernel_rfl) (by kernel_rfl) (fun _ _ _ h => h) (Or.inr ⟨by kernel_rfl, rfl⟩) (by assumption) ?_
                  try simp only [List.getElem_toArray, List.getElem_cons_succ, List.getElem_cons_zero, Act.put, List.setIfInBounds_toArray, List.set_cons_zero, List.set_cons_succ]
                  refine wpAnyH_take (i := 12) (v := undef) rfl (by kernel_rfl) (by kernel_rfl) (by kernel_rfl) (fun _ _ _ h => h) (Or.inr ⟨by kernel_rfl, rfl⟩) (by assumption) ?_
                  try simp only [List.getElem_toArray, List.getElem_cons_succ, List.getElem_cons_zero, Act.put, List.setIfInBounds_toArray, List.set_cons_zero, List.set_cons_succ]
                  refine wpAnyH_take (i := 13) (v := undef) rfl (by kernel_rfl) (by kernel_rfl) (by kernel_rfl) (fun _ _ _ h => h) (Or.inr ⟨by kernel_rfl, rfl⟩) (by assumption) ?_
                  try simp only [List.getElem_toArray, List.getElem_cons_succ, List.getElem_cons_zero, Act.put, List.setIfInBounds_toArray, List.set_cons_zero, List.set_cons_succ]
                  refine wpAnyH_take (i := 14) (v := undef) rfl (by kernel_rfl) (by kernel_rfl) (by kernel_rfl) (fun _ _ _ h => h) (Or.inr ⟨by kernel_rfl, rfl⟩) (by assumption) ?_
                  try simp only [List.getElem_toArray, List.getElem_cons_succ, List.getElem_cons_zero, Act.put, List.setIfInBounds_toArray, List.set_cons_zero, List.set_cons_succ]
                  refine wpAnyH_take (i := 15) (v := undef) rfl (by kernel_rfl) (by kernel_rfl) (by kernel_rfl) (fun _ _ _ h => h) (Or.inr ⟨by kernel_rfl, rfl⟩) (by assumption) ?_
                  try simp only [List.getElem_toArray, List.getElem_cons_succ, List.getElem_cons_zero, Act.put, List.setIfInBounds_toArray, List.set_cons_zero, List.set_cons_succ]
                  refine wpAnyH_take (i := 16) (v := .bool false) rfl (by kernel_rfl) (by kernel_rfl) (by kernel_rfl) (fun _ _ _ h => h) (Or.inl ⟨by rfl, by intro wx hx; go_simp⟩) (by assumption) ?_
                  try simp only [List.getElem_toArray, List.getElem_cons_succ, List.getElem_cons_zero, Act.put, List.setIfInBounds_toArray, List.set_cons_zero, List.set_cons_succ]
                  refine wpAnyH_done (by kernel_rfl) ?_ _
                  go_wp2_with fail
                  go_roundw
                  case rel => exact ⟨0 + 1, _, _, _, _, rfl, by first | rfl | go_num, by omega, hi, hlO, hid hst.out, ownd, hbd⟩
                  case measure => simp [intOf]
              · have hOe : O = adP O0 p A1 A2 := hOq.out
                have hB0 := hid (hOe ▸ hB01.out : BSt E E (-1) n x O i k)
                have hp := hid (hOe ▸ hp1.out : nth O i = p)
                have hlO16 : lO ≤ 1000 := by have := hB0.out.len; have := hlO.out; omega
                have hstep := hid (show adP O p A2 A1 = adK O0 p A1 A2 (1 + 1) by rw [hOe]; rfl)
                replace hOe := hid hOe
                have hr : IsInts wp (.slice dO lO mO) O := by
                  have h := hB0.out.reads hn hlO.out own
                  rw [← hlO.out] at h
                  exact h
                obtain ⟨bO, oO, hdO, hcO⟩ := hr.at (w' := wp) (k := i) (by rw [← hlO.out]; exact hi)
                cases hdO
                rw [hp.out] at hcO
                have cA : wp.cell? ⟨gE, 1, none⟩ = some (.int .i64 A2) := ow_cell own (.tail _ (.head _)) (j := 1) (by omega)
                have cB : wp.cell? ⟨gE, 0, none⟩ = some (.int .i64 A1) := ow_cell own (.tail _ (.head _)) (j := 0) (by omega)
                have ed : Ext wp wp.drew := inferInstance
                have cAd := ed.cell cA
                have cBd := ed.cell cB
                have cOd := ed.cell hcO
                have hHc := hid (fun (u : World) (e : Ext wp u) (y : Int) => @sContains_any (.slice (some ⟨bO, oO, none⟩) lO mO) O y wp u e hr)
                have ownd := own.ext (w' := wp.drew) (e := ed)
                have hbd := hb.trans (ed.below.mono (Nat.le_trans hBW hb.size))
                go_upto_region 11 with fail
                refine wp_region_held_drew (S := fun u => u.cell? ⟨gE, 1, none⟩ = some (.int .i64 A2) ∧ u.cell? ⟨gE, 0, none⟩ = some (.int .i64 A1) ∧ u.cell? ⟨bO, oO + i, none⟩ = some (.int .i64 p)) (by kernel_rfl) ⟨cAd, cBd, cOd⟩ (fun hHeld0 => ?_)
                generalize hwd : wp.drew = wd at *
                refine wpAnyH_take (i := 0) (v := .int .i64 1) rfl (by kernel_rfl) (by kernel_rfl) (by kernel_rfl) (fun _ _ _ h => h) (Or.inl ⟨by rfl, by intro wx hx; go_simp⟩) (by assumption) ?_
                try simp only [List.getElem_toArray, List.getElem_cons_zero, Act.put, List.setIfInBounds_toArray, List.set_cons_zero, List.set_cons_succ]
                refine wpAnyH_take (i := 1) (v := .pointer (some ⟨gE, 1, none⟩)) rfl (by kernel_rfl) (by kernel_rfl) (by kernel_rfl) (fun _ _ _ h => h) (Or.inl ⟨by rfl, by intro wx hx; go_simp⟩) (by assumption) ?_
                try simp only [List.getElem_toArray, List.getElem_cons_succ, List.getElem_cons_zero, Act.put, List.setIfInBounds_toArray, List.set_cons_zero, List.set_cons_succ]
                refine wpAnyH_take (i := 2) (v := .int .i64 A2) rfl (by kernel_rfl) (by kernel_rfl) (by kernel_rfl) (fun _ _ _ h => h) (Or.inl ⟨by rfl, by intro wx hx; obtain ⟨_, _, _⟩ := hx; go_simp⟩) (by assumption) ?_
                try simp only [List.getElem_toArray, List.getElem_cons_succ, List.getElem_cons_zero, Act.put, List.setIfInBounds_toArray, List.set_cons_zero, List.set_cons_succ]
                refine wpAnyH_take (i := 3) (v := .slice (some ⟨bO, oO, none⟩) lO mO) rfl (by kernel_rfl) (by kernel_rfl) (by kernel_rfl) (fun _ _ _ h => h) (Or.inl ⟨by rfl, by intro wx hx; go_simp⟩) (by assumption) ?_
                try simp only [List.getElem_toArray, List.getElem_cons_succ, List.getElem_cons_zero, Act.put, List.setIfInBounds_toArray, List.set_cons_zero, List.set_cons_succ]
                refine wpAnyH_take (i := 4) (v := .int .i64 i) rfl (by kernel_rfl) (by kernel_rfl) (by kernel_rfl) (fun _ _ _ h => h) (Or.inl ⟨by rfl, by intro wx hx; go_simp⟩) (by assumption) ?_
                try simp only [List.getElem_toArray, List.getElem_cons_succ, List.getElem_cons_zero, Act.put, List.setIfInBounds_toArray, List.set_cons_zero, List.set_cons_succ]
                refine wpAnyH_take (i := 5) (v := .pointer (some ⟨bO, oO + i, none⟩)) rfl (by kernel_rfl) (by kernel_rfl) (by kernel_rfl) (fun _ _ _ h => h) (Or.inl ⟨by rfl, by intro wx hx; go_simp⟩) (by assumption) ?_
                try simp only [List.getElem_toArray, List.getElem_cons_succ, List.getElem_cons_zero, Act.put, List.setIfInBounds_toArray, List.set_cons_zero, List.set_cons_succ]
                refine wpAnyH_take (i := 6) (v := .int .i64 p) rfl (by kernel_rfl) (by kernel_rfl) (by kernel_rfl) (fun _ _ _ h => h) (Or.inl ⟨by rfl, by intro wx hx; obtain ⟨_, _, _⟩ := hx; go_simp⟩) (by assumption) ?_
                try simp only [List.getElem_toArray, List.getElem_cons_succ, List.getElem_cons_zero, Act.put, List.setIfInBounds_toArray, List.set_cons_zero, List.set_cons_succ]
                by_cases h1 : A2 = p
                · have hq1 : (A2 == p) = true := beq_iff_eq.2 h1
                  replace h1 := hid h1
                  cases hh1 : hasB O A1 with
                  | true =>
                    have hst := hstep.out
                    rw [adP_has hh1] at hst
                    replace hst := hid hst
                    refine wpAnyH_take (i := 7) (v := .bool true) rfl (by kernel_rfl) (by kernel_rfl) (by kernel_rfl) (fun _ _ _ h => h) (Or.inl ⟨by rfl, by intro wx hx; go_simp⟩) (by assumption) ?_
                    try simp only [List.getElem_toArray, List.getElem_cons_succ, List.getElem_cons_zero, Act.put, List.setIfInBounds_toArray, List.set_cons_zero, List.set_cons_succ]
                    refine wpAnyH_take (i := 8) (v := .bool true) rfl (by kernel_rfl) (by kernel_rfl) (by kernel_rfl) (fun _ _ _ h => h) (Or.inl ⟨by rfl, by intro wx hx; go_simp⟩) (by assumption) ?_
                    try simp only [List.getElem_toArray, List.getElem_cons_succ, List.getElem_cons_zero, Act.put, List.setIfInBounds_toArray, List.set_cons_zero, List.set_cons_succ]
                    refine wpAnyH_take (i := 9) (v := .slice (some ⟨bO, oO, none⟩) lO mO) rfl (by kernel_rfl) (by kernel_rfl) (by kernel_rfl) (fun _ _ _ h => h) (Or.inl ⟨by rfl, by intro wx hx; go_simp⟩) (by assumption) ?_
                    try simp only [List.getElem_toArray, List.getElem_cons_succ, List.getElem_cons_zero, Act.put, List.setIfInBounds_toArray, List.set_cons_zero, List.set_cons_succ]
                    refine wpAnyH_take (i := 10) (v := .int .i64 1) rfl (by kernel_rfl) (by kernel_rfl) (by kernel_rfl) (fun _ _ _ h => h) (Or.inl ⟨by rfl, by intro wx hx; go_simp⟩) (by assumption) ?_
                    try simp only [List.getElem_toArray, List.getElem_cons_succ, List.getElem_cons_zero, Act.put, List.setIfInBounds_toArray, List.set_cons_zero, List.set_cons_succ]
                    refine wpAnyH_take (i := 11) (v := .int .i64 0) rfl (by kernel_rfl) (by kernel_rfl) (by kernel_rfl) (fun _ _ _ h => h) (Or.inl ⟨by rfl, by intro wx hx; go_simp <;> rfl⟩) (by assumption) ?_
                    try simp only [List.getElem_toArray, List.getElem_cons_succ, List.getElem_cons_zero, Act.put, List.setIfInBounds_toArray, List.set_cons_zero, List.set_cons_succ]
                    refine wpAnyH_take (i := 12) (v := .pointer (some ⟨gE, 0, none⟩)) rfl (by kernel_rfl) (by kernel_rfl) (by kernel_rfl) (fun _ _ _ h => h) (Or.inl ⟨by rfl, by intro wx hx; go_simp⟩) (by assumption) ?_
                    try simp only [List.getElem_toArray, List.getElem_cons_succ, List.getElem_cons_zero, Act.put, List.setIfInBounds_toArray, List.set_cons_zero, List.set_cons_succ]
                    refine wpAnyH_take (i := 13) (v := .int .i64 A1) rfl (by kernel_rfl) (by kernel_rfl) (by kernel_rfl) (fun _ _ _ h => h) (Or.inl ⟨by rfl, by intro wx hx; obtain ⟨_, _, _⟩ := hx; go_simp⟩) (by assumption) ?_
                    try simp only [List.getElem_toArray, List.getElem_cons_succ, List.getElem_cons_zero, Act.put, List.setIfInBounds_toArray, List.set_cons_zero, List.set_cons_succ]
                    refine wpAnyH_ready (rs := [14]) (by kernel_rfl) (by simp) ?_
                    refine AllReadyH.cons rfl (fun K hK => ?_) AllReadyH.nil
                    go_simp
                    go_at_call 55
                    with_reducible refine (hHc.out wd ed A1).mono ?_
                    rw [hh1]
                    rintro e w3 ⟨rfl, rfl⟩
                    go_wp2_with fail
                    refine hK.out _ _ ⟨cAd, cBd, cOd⟩ (fun _ => ?_)
                    clear hK K
                    try simp only [List.getElem_toArray, List.getElem_cons_succ, List.getElem_cons_zero, Act.put, List.setIfInBounds_toArray, List.set_cons_zero, List.set_cons_succ]
                    refine wpAnyH_take (i := 15) (v := .bool false) rfl (by kernel_rfl) (by kernel_rfl) (by kernel_rfl) (fun _ _ _ h => h) (Or.inl ⟨by rfl, by intro wx hx; go_simp⟩) (by assumption) ?_
                    try simp only [List.getElem_toArray, List.getElem_cons_succ, List.getElem_cons_zero, Act.put, List.setIfInBounds_toArray, List.set_cons_zero, List.set_cons_succ]
                    refine wpAnyH_take (i := 16) (v := .bool false) rfl (by kernel_rfl) (by kernel_rfl) (by kernel_rfl) (fun _ _ _ h => h) (Or.inl ⟨by rfl, by intro wx hx; go_simp⟩) (by assumption) ?_
                    try simp only [List.getElem_toArray, List.getElem_cons_succ, List.getElem_cons_zero, Act.put, List.setIfInBounds_toArray, List.set_cons_zero, List.set_cons_succ]
                    refine wpAnyH_done (by kernel_rfl) ?_ _
                    replace hh1 := hid hh1
                    go_wp2_with fail
                    go_roundw
                    case rel => exact ⟨1 + 1, _, _, _, _, rfl, by first | rfl | go_num, by omega, hi, hlO, hid hst.out, ownd, hbd⟩
                    case measure => simp [intOf]
                  | false =>
                    have hst := hstep.out
                    rw [adP_put h1.out hh1] at hst
                    replace hst := hid hst
                    refine wpAnyH_take (i := 7) (v := .bool true) rfl (by kernel_rfl) (by kernel_rfl) (by kernel_rfl) (fun _ _ _ h => h) (Or.inl ⟨by rfl, by intro wx hx; go_simp⟩) (by assumption) ?_
                    try simp only [List.getElem_toArray, List.getElem_cons_succ, List.getElem_cons_zero, Act.put, List.setIfInBounds_toArray, List.set_cons_zero, List.set_cons_succ]
                    refine wpAnyH_take (i := 8) (v := .bool true) rfl (by kernel_rfl) (by kernel_rfl) (by kernel_rfl) (fun _ _ _ h => h) (Or.inl ⟨by rfl, by intro wx hx; go_simp⟩) (by assumption) ?_
                    try simp only [List.getElem_toArray, List.getElem_cons_succ, List.getElem_cons_zero, Act.put, List.setIfInBounds_toArray, List.set_cons_zero, List.set_cons_succ]
                    refine wpAnyH_take (i := 9) (v := .slice (some ⟨bO, oO, none⟩) lO mO) rfl (by kernel_rfl) (by kernel_rfl) (by kernel_rfl) (fun _ _ _ h => h) (Or.inl ⟨by rfl, by intro wx hx; go_simp⟩) (by assumption) ?_
                    try simp only [List.getElem_toArray, List.getElem_cons_succ, List.getElem_cons_zero, Act.put, List.setIfInBounds_toArray, List.set_cons_zero, List.set_cons_succ]
                    refine wpAnyH_take (i := 10) (v := .int .i64 1) rfl (by kernel_rfl) (by kernel_rfl) (by kernel_rfl) (fun _ _ _ h => h) (Or.inl ⟨by rfl, by intro wx hx; go_simp⟩) (by assumption) ?_
                    try simp only [List.getElem_toArray, List.getElem_cons_succ, List.getElem_cons_zero, Act.put, List.setIfInBounds_toArray, List.set_cons_zero, List.set_cons_succ]
                    refine wpAnyH_take (i := 11) (v := .int .i64 0) rfl (by kernel_rfl) (by kernel_rfl) (by kernel_rfl) (fun _ _ _ h => h) (Or.inl ⟨by rfl, by intro wx hx; go_simp <;> rfl⟩) (by assumption) ?_
                    try simp only [List.getElem_toArray, List.getElem_cons_succ, List.getElem_cons_zero, Act.put, List.setIfInBounds_toArray, List.set_cons_zero, List.set_cons_succ]
                    refine wpAnyH_take (i := 12) (v := .pointer (some ⟨gE, 0, none⟩)) rfl (by kernel_rfl) (by kernel_rfl) (by kernel_rfl) (fun _ _ _ h => h) (Or.inl ⟨by rfl, by intro wx hx; go_simp⟩) (by assumption) ?_
                    try simp only [List.getElem_toArray, List.getElem_cons_succ, List.getElem_cons_zero, Act.put, List.setIfInBounds_toArray, List.set_cons_zero, List.set_cons_succ]
                    refine wpAnyH_take (i := 13) (v := .int .i64 A1) rfl (by kernel_rfl) (by kernel_rfl) (by kernel_rfl) (fun _ _ _ h => h) (Or.inl ⟨by rfl, by intro wx hx; obtain ⟨_, _, _⟩ := hx; go_simp⟩) (by assumption) ?_
                    try simp only [List.getElem_toArray, List.getElem_cons_succ, List.getElem_cons_zero, Act.put, List.setIfInBounds_toArray, List.set_cons_zero, List.set_cons_succ]
                    refine wpAnyH_ready (rs := [14]) (by kernel_rfl) (by simp) ?_
                    refine AllReadyH.cons rfl (fun K hK => ?_) AllReadyH.nil
                    go_simp
                    go_at_call 55
                    with_reducible refine (hHc.out wd ed A1).mono ?_
                    rw [hh1]
                    rintro e w3 ⟨rfl, rfl⟩
                    go_wp2_with fail
                    refine hK.out _ _ ⟨cAd, cBd, cOd⟩ (fun _ => ?_)
                    clear hK K
                    try simp only [List.getElem_toArray, List.getElem_cons_succ, List.getElem_cons_zero, Act.put, List.setIfInBounds_toArray, List.set_cons_zero, List.set_cons_succ]
                    refine wpAnyH_take (i := 15) (v := .bool true) rfl (by kernel_rfl) (by kernel_rfl) (by kernel_rfl) (fun _ _ _ h => h) (Or.inl ⟨by rfl, by intro wx hx; go_simp⟩) (by assumption) ?_
                    try simp only [List.getElem_toArray, List.getElem_cons_succ, List.getElem_cons_zero, Act.put, List.setIfInBounds_toArray, List.set_cons_zero, List.set_cons_succ]
                    refine wpAnyH_take (i := 16) (v := .bool true) rfl (by kernel_rfl) (by kernel_rfl) (by kernel_rfl) (fun _ _ _ h => h) (Or.inl ⟨by rfl, by intro wx hx; go_simp⟩) (by assumption) ?_
                    try simp only [List.getElem_toArray, List.getElem_cons_succ, List.getElem_cons_zero, Act.put, List.setIfInBounds_toArray, List.set_cons_zero, List.set_cons_succ]
                    refine wpAnyH_done (by kernel_rfl) ?_ _
                    replace hh1 := hid hh1
                    have hB2 := Nat.le_trans hBW hbd.size
                    have ownA : Own wd B (⟨3, 1, .slice (some ⟨bO, oO, none⟩) lO mO, lO, O.map (Value.int .i64)⟩ :: [⟨46, 2, .slice (some ⟨gE, 0, none⟩) 1 1, 1, [.int .i64 A1, .int .i64 A2]⟩]) := by
                      have h := ownd
                      unfold intRowOf at h
                      rw [← hlO.out] at h
                      exact h
                    go_wp2_with (at_builtin; refine wpList_append1 rfl _ _ _ rfl elemInt rfl ownA hB2 rfl rfl (by omega) (by omega) ?_; intro v1 w5 ho hb5; obtain ⟨vd, vm, hv1⟩ := ho.form; (obtain rfl : v1 = .slice vd (lO + 1) vm := hv1))
                    have own5 := own_app1 ho hlO.out
                    have hbl5 := hbd.trans hb5
                    have hlZ := hid (show lO + 1 = (O ++ [A1]).length by rw [List.length_append, ← hlO.out]; rfl)
                    go_roundw
                    case rel => exact ⟨1 + 1, _, _, _, _, rfl, by first | rfl | go_num, by omega, (Nat.lt_succ_of_lt hi), hlZ, hid hst.out, own5, hbl5⟩
                    case measure => simp [intOf]
                · have hq1 : (A2 == p) = false := beq_eq_false_iff_ne.2 h1
                  have hst := hstep.out
                  rw [adP_ne h1] at hst
                  replace hst := hid hst
                  refine wpAnyH_take (i := 7) (v := .bool false) rfl (by kernel_rfl) (by kernel_rfl) (by kernel_rfl) (fun _ _ _ h => h) (Or.inl ⟨by rfl, by intro wx hx; go_simp⟩) (by assumption) ?_
                  try simp only [List.getElem_toArray, List.getElem_cons_succ, List.getElem_cons_zero, Act.put, List.setIfInBounds_toArray, List.set_cons_zero, List.set_cons_succ]
                  refine wpAnyH_take (i := 8) (v := .bool false) rfl (by kernel_rfl) (by kernel_rfl) (by kernel_rfl) (fun _ _ _ h => h) (Or.inl ⟨by rfl, by intro wx hx; go_simp⟩) (by assumption) ?_
                  try simp only [List.getElem_toArray, List.getElem_cons_succ, List.getElem_cons_zero, Act.put, List.setIfInBounds_toArray, List.set_cons_zero, List.set_cons_succ]
                  refine wpAnyH_take (i := 9) (v := undef) rfl (by kernel_rfl) (by kernel_rfl) (by kernel_rfl) (fun _ _ _ h => h) (Or.inr ⟨by kernel_rfl, rfl⟩) (by assumption) ?_
                  try simp only [List.getElem_toArray, List.getElem_cons_succ, List.getElem_cons_zero, Act.put, List.setIfInBounds_toArray, List.set_cons_zero, List.set_cons_succ]
                  refine wpAnyH_take (i := 10) (v := undef) rfl (by kernel_rfl) (by kernel_rfl) (by kernel_rfl) (fun _ _ _ h => h) (Or.inr ⟨by kernel_rfl, rfl⟩) (by assumption) ?_
                  try simp only [List.getElem_toArray, List.getElem_cons_succ, List.getElem_cons_zero, Act.put, List.setIfInBounds_toArray, List.set_cons_zero, List.set_cons_succ]
                  refine wpAnyH_take (i := 11) (v := undef) rfl (by kernel_rfl) (by kernel_rfl) (by kernel_rfl) (fun _ _ _ h => h) (Or.inr ⟨by kernel_rfl, rfl⟩) (by assumption) ?_
                  try simp only [List.getElem_toArray, List.getElem_cons_succ, List.getElem_cons_zero, Act.put, List.setIfInBounds_toArray, List.set_cons_zero, List.set_cons_succ]
                  refine wpAnyH_take (i := 12) (v := undef) rfl (by kernel_rfl) (by kernel_rfl) (by kernel_rfl) (fun _ _ _ h => h) (Or.inr ⟨by kernel_rfl, rfl⟩) (by assumption) ?_
                  try simp only [List.getElem_toArray, List.getElem_cons_succ, List.getElem_cons_zero, Act.put, List.setIfInBounds_toArray, List.set_cons_zero, List.set_cons_succ]
                  refine wpAnyH_take (i := 13) (v := undef) rfl (by kernel_rfl) (by kernel_rfl) (by kernel_rfl) (fun _ _ _ h => h) (Or.inr ⟨by kernel_rfl, rfl⟩) (by assumption) ?_
                  try simp only [List.getElem_toArray, List.getElem_cons_succ, List.getElem_cons_zero, Act.put, List.setIfInBounds_toArray, List.set_cons_zero, List.set_cons_succ]
                  refine wpAnyH_take (i := 14) (v := undef) rfl (by kernel_rfl) (by kernel_rfl) (by kernel_rfl) (fun _ _ _ h => h) (Or.inr ⟨by kernel_rfl, rfl⟩) (by assumption) ?_
                  try simp only [List.getElem_toArray, List.getElem_cons_succ, List.getElem_cons_zero, Act.put, List.setIfInBounds_toArray, List.set_cons_zero, List.set_cons_succ]
                  refine wpAnyH_take (i := 15) (v := undef) rfl (by kernel_rfl) (by kernel_rfl) (by kernel_rfl) (fun _ _ _ h => h) (Or.inr ⟨by kernel_rfl, rfl⟩) (by assumption) ?_
                  try simp only [List.getElem_toArray, List.getElem_cons_succ, List.getElem_cons_zero, Act.put, List.setIfInBounds_toArray, List.set_cons_zero, List.set_cons_succ]
                  refine wpAnyH_take (i := 16) (v := .bool false) rfl (by kernel_rfl) (by kernel_rfl) (by kernel_rfl) (fun _ _ _ h => h) (Or.inl ⟨by rfl, by intro wx hx; go_simp⟩) (by assumption) ?_
                  try simp only [List.getElem_toArray, List.getElem_cons_succ, List.getElem_cons_zero, Act.put, List.setIfInBounds_toArray, List.set_cons_zero, List.set_cons_succ]
                  refine wpAnyH_done (by kernel_rfl) ?_ _
                  go_wp2_with fail
                  go_roundw
                  case rel => exact ⟨1 + 1, _, _, _, _, rfl, by first | rfl | go_num, by omega, hi, hlO, hid hst.out, ownd, hbd⟩
                  case measure => simp [intOf]
            · obtain rfl : q = 2 := by omega
              have hOe : O = adP (adP O0 p A1 A2) p A2 A1 := hOq.out
              have hB0 := hid (hOe ▸ hstF.out : BSt E E (-1) n x O i (k + 1))
              have own' := own.sub (S := [intRowOf 3 (.slice dO lO mO) O]) (by simp)
              replace hOe := hid hOe
              go_wp2_with fail
              go_roundw
              case rel => exact ⟨k + 1, _, _, _, _, rfl, by go_num, by omega, hi, hlO, hB0, own', hb⟩
              case measure => simp [intOf]; omega
        · have hB2 := hid (hB0.out.next (by omega) hE.out)
          go_wp2_with fail
          go_roundw
          case rel => exact ⟨i + 1, _, _, _, _, rfl, by go_num, by omega, hlO, hB2, hown, hb0⟩
          case measure => simp [intOf]; omega
    · have hfin := hid (hB0.out.fin (by rw [← hlO.out]; omega))
      have hSd := hid (SdL.dif hfin.out)
      have hr : IsInts wr0 (.slice dO lO mO) O := by
        have h := hB0.out.reads hn hlO.out hown
        rw [← hlO.out] at h
        exact h
      have hbn := hid (show ∀ y ∈ difL O, 0 ≤ y ∧ y < (n : Int) from fun y hy => by
        obtain ⟨t, ht, htn, _⟩ := hB0.out.reach _ (mem_difL.1 hy)
        omega)
      have hdl := hid (show (difL O).length ≤ 1000 by have := difL_len O; have := hB0.out.len; omega)
      have hBo := Nat.le_trans hBW hb0.size
      have hew := hE2.out wr0 hb0
      have hws : w.heap.size ≤ wr0.heap.size := hew.size
      go_wp2_with fail
      with_reducible refine (risingT_any (w0 := wr0) (w := wr0) hr).mono ?_
      rintro e w2 ⟨d, m, rfl, own2, e2⟩
      have own9 := own2.mono hws
      have hrF : IsInts w2 (.slice d (difL O).length m) (difL O) := own9.reads (by have := hdl.out; unfold Short; omega) (fun y hy => by have := hbn.out y hy; unfold I64; omega)
      have eF : Ext w w2 := Ext.trans hew e2
      go_wp2_with fail
      refine bodyPost_ret (v := .slice d (difL O).length m) (by simp [results, Try.results40, go_sem]) rfl ?_
      exact ⟨d, m, difL O, rfl, hSd.out, hrF, own9, eF⟩
end Go.Proofs.Ytnlbjbnjjkilhaa
