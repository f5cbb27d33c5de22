/- 'laws.FnOneServer': for every code the law returns true. -/
import Derived.Test.YtkibmjenjgijmaaGreatMtI
import Derived.Test.YtkibmjenjgijmaaGreatGs
import Derived.Test.YtkibmjenjgijmaaGreatGrN
import Derived.Test.YtkibmjenjgijmaaGreatOsP
import Derived.Test.YtkibmjenjgijmaaGreatGrF
import Derived.Test.YtkibmjenjgijmaaGreatRlaw
import Derived.Test.YtkibmjenjgijmaaGreatSrs
namespace Go.Proofs.YtkibmjenjgijmaaGreat
open Go.RowKit

set_option maxHeartbeats 400000 in
theorem specMet_any {v : Value} {M : List (List Int)} {w0 w : World} [Ext w0 w] (hm : IsMet w0 v M) :
    Calls Tryz.prog 7 #[v] w fun e w' => e = .returned (.bool (metB M)) ∧ Ext w w' := by
  have hm' := hm
  obtain ⟨v1, rfl, hR⟩ := hm
  obtain ⟨a1, c1, rfl, l1⟩ := hR.form
  go_enter Tryz.func7, Tryz.ntmps7
  go_upto_region 1 with fail
  have e1 : Ext w (w.alloc (.cells #[.slice a1 M.length c1] 26)) := inferInstance
  have x0 : (w.alloc (.cells #[.slice a1 M.length c1] 26)).cell? ⟨w.heap.size, 0, none⟩ = some (.slice a1 M.length c1) := by go_simp
  obtain ⟨p, hp⟩ : ∃ r, r = w.heap.size := ⟨_, rfl⟩
  rw [← hp] at x0 ⊢
  replace hp := hid hp
  generalize w.alloc (.cells #[.slice a1 M.length c1] 26) = w2 at *
  have e0 : Ext w0 w2 := Ext.trans ‹Ext w0 w› e1
  go_wp2_with fail
  with_reducible refine (l6Good_any (w0 := w0) hm').mono ?_
  rintro e w3 ⟨rfl, e3⟩
  go_wp2_with fail
  go_ret
  exact ⟨rfl, Ext.trans e1 e3⟩

/-- the box of the problem -/
def osRow (b : Nat) (cs : List Value) : Row := ⟨32, 2, .slice (some ⟨b, 0, none⟩) 1 1, 1, cs⟩
theorem os_len (n : Nat) : (osS n).length = n := by simp [osS]
theorem os_row_set {n r : Nat} (h : r < n) : (List.replicate n (-1 : Int)).set r 0 = row (osS n) r := by
  rw [os_row h]
  apply List.ext_getElem
  · simp
  · intro i h1 h2
    have hi : i < n := by simpa using h1
    simp only [List.getElem_set, List.getElem_replicate, List.getElem_map, List.getElem_range]
    by_cases e : r = i
    · rw [if_pos e, if_pos e.symm]
    · rw [if_neg e, if_neg (fun h => e h.symm)]

set_option maxHeartbeats 6400000 in
set_option maxRecDepth 100000 in
theorem lawFnOneServer_any {v : Value} {nb : Nat} {w : World} (hc : IsBytes w v nb) :
    Calls Tryz.prog 3 #[v] w fun e w' => e = .returned (.bool true) ∧ Ext w w' := by
  have hc' := hc
  obtain ⟨ac, cc, rfl⟩ := hc.form
  by_cases hbig : 65536 < nb
  · have hd := hid (decide_eq_true hbig)
    go_enter Tryz.func3, Tryz.ntmps3
    go_wp2_with fail
    refine (rBig_any hc').mono ?_
    rw [hd.out]
    rintro e w1 ⟨rfl, rfl⟩
    go_wp2_with fail
    go_ret
    exact ⟨rfl, Ext.refl _⟩
  · have hd := hid (decide_eq_false hbig)
    go_enter Tryz.func3, Tryz.ntmps3
    go_wp2_with fail
    refine (rBig_any hc').mono ?_
    rw [hd.out]
    rintro e w1 ⟨rfl, rfl⟩
    go_wp2_with fail
    refine (drawGS_any (w0 := w) (w := w) hc').mono ?_
    rintro e w1 ⟨fM, cM, av, xv, M, a, X, Z, rfl, hMok, hal, hXl, ownZ, hZ, e1⟩
    obtain ⟨hm, ha, hX⟩ := hZ.out _ _ ownZ
    obtain ⟨da, ma, rfl, la⟩ := ha.form
    obtain ⟨dx, mx, rfl, lx⟩ := hX.form
    have hM7 := hMok.1
    clear hZ ownZ hMok
    go_upto_region 4 with fail
    have g2 : Ext w1 (w1.alloc (.cells #[.slice fM M.length cM] 26)) := inferInstance
    have x2 : (w1.alloc (.cells #[.slice fM M.length cM] 26)).cell? ⟨w1.heap.size, 0, none⟩ = some (.slice fM M.length cM) := by go_simp
    obtain ⟨p, hp⟩ : ∃ r, r = w1.heap.size := ⟨_, rfl⟩
    rw [← hp] at x2 ⊢
    replace hp := hid hp
    generalize w1.alloc (.cells #[.slice fM M.length cM] 26) = w2 at *
    obtain ⟨Q, hQ⟩ : ∃ q, q = metB M := ⟨_, rfl⟩
    replace hQ := hid hQ
    have hQQ : (Q != Q) = false := by simp
    go_wp2_with fail
    with_reducible refine (specMet_any (w0 := w1) (w := w2) hm).mono ?_
    rw [← hQ.out]
    rintro e w3 ⟨rfl, e3⟩
    have x3 := e3.cell x2
    have g3 : Ext w1 w3 := Ext.trans g2 e3
    clear x2
    go_wp2_with fail
    with_reducible refine (IsMetric_any (w0 := w1) (w := w3) hm).mono ?_
    rw [← hQ.out]
    rintro e w4 ⟨rfl, e4⟩
    have x4 := e4.cell x3
    have g4 : Ext w1 w4 := Ext.trans g3 e4
    have gw4 : Ext w w4 := Ext.trans e1 g4
    clear x3
    cases Q with
    | false =>
      go_wp2_with fail
      go_ret
      exact ⟨rfl, gw4⟩
    | true =>
      by_cases h4 : 4 < M.length
      · have h4' : decide ((M.length : Int) > 4) = true := by simp; omega
        go_wp2_with fail
        go_ret
        exact ⟨rfl, gw4⟩
      · have h4' : decide ((M.length : Int) > 4) = false := by simp; omega
        by_cases ha0 : a.length = 0
        · rw [ha0]
          replace ha0 := hid ha0
          go_wp2_with fail
          go_ret
          exact ⟨rfl, gw4⟩
        · have hapos : 0 < a.length := by omega
          have ha0' : ((a.length : Int) == 0) = false := by rw [beq_eq_false_iff_ne]; omega
          obtain ⟨ba, oa, rfl, hca⟩ := ha.at (w' := w4) hapos
          obtain ⟨s, hs⟩ : ∃ s, s = nth a 0 := ⟨_, rfl⟩
          have hsi : I64 s := by rw [hs]; exact ha.i64 hapos
          rw [Nat.add_zero, ← hs] at hca
          replace hs := hid hs
          by_cases hs0 : s < 0
          · have hg : decide (s < 0) = true := decide_eq_true hs0
            go_wp2_with fail
            go_ret
            exact ⟨rfl, gw4⟩
          · have hg : decide (s < 0) = false := decide_eq_false hs0
            by_cases hsn : (M.length : Int) ≤ s
            · have hg2 : decide (s ≥ (M.length : Int)) = true := decide_eq_true hsn
              go_wp2_with fail
              go_ret
              exact ⟨rfl, gw4⟩
            · have hg2 : decide (s ≥ (M.length : Int)) = false := decide_eq_false (by omega)
              have hcap := ha.cap
              have hst : IsInts w1 (.slice (some ⟨ba, oa, none⟩) 1 ma) [s] := by
                have h := ha.cut (k := 1) (by omega)
                have e : a.take 1 = [s] := by
                  have h2 := take_succ_nth (k := 0) (xs := a) hapos
                  rw [h2, hs.out]; rfl
                rw [e] at h
                exact h
              have hB4 : w4.heap.size ≤ w4.heap.size := Nat.le_refl _
              have own5 : Own (w4.alloc (.cells #[.slice fM M.length cM, .slice none 0 0] 32)) w4.heap.size [osRow w4.heap.size [.slice fM M.length cM, .slice none 0 0]] := (Own.nil w4 w4.heap.size).lit 32 2 1 #[.slice fM M.length cM, .slice none 0 0] (Nat.le_refl _) (by unfold maxLen; omega) rfl
              have b5 : Below w4.heap.size w4 (w4.alloc (.cells #[.slice fM M.length cM, .slice none 0 0] 32)) := (Below.refl _ w4).alloc (Nat.le_refl _) _
              go_upto_region 12 with fail
              obtain ⟨B, hB⟩ : ∃ b, b = w4.heap.size := ⟨_, rfl⟩
              rw [← hB] at own5 b5 ⊢
              have hEx := hid (show ∀ u, Below B w4 u → Ext w4 u from fun u h => ⟨by rw [← hB]; exact h⟩)
              have hBs := hid (show ∀ u, Below B w4 u → B ≤ u.heap.size from fun u h => by rw [hB]; exact h.size)
              replace hB := hid hB
              generalize w4.alloc (.cells #[.slice fM M.length cM, .slice none 0 0] 32) = w5 at *
              have tab0 : Tab w5 B (.slice none 0 0) ((osS M.length).take 0) [osRow B [.slice fM M.length cM, .slice none 0 0]] := Tab.nil own5
              clear own5 hB4 hQQ
              have hol := hid (os_len M.length)
              go_wp2_with fail
              go_loopw [10] (fun i wr => ∃ r : Nat, r ≤ M.length ∧ i = .int .i64 r ∧ (∃ sv, Tab wr B sv ((osS M.length).take r) [osRow B [.slice fM M.length cM, sv]]) ∧ Below B w4 wr) (fun i _ => M.length - (intOf i).toNat)
              case atStart => exact ⟨0, by omega, rfl, ⟨_, tab0⟩, b5⟩
              case round =>
                clear tab0 b5
                obtain ⟨r, hr, rfl, ⟨sv, tab⟩, hb⟩ := hrel
                obtain ⟨wo, rfl⟩ : ∃ y : World, y = wr := ⟨_, rfl⟩
                obtain ⟨dS, nS, mS, rfl, hnS⟩ := tab.formN
                have hBo := hBs.out _ hb
                have eo : Ext w4 wo := hEx.out _ hb
                by_cases hlt : r < M.length
                · have hTs := take_succ_row (xs := osS M.length) (k := r) (by rw [hol.out]; exact hlt)
                  have hT2 : ((osS M.length).take r).length ≤ 1000 := by rw [List.length_take]; omega
                  have hset := os_row_set hlt
                  obtain ⟨T, hT⟩ : ∃ l, l = (osS M.length).take r := ⟨_, rfl⟩
                  obtain ⟨Y, hY⟩ : ∃ l, l = row (osS M.length) r := ⟨_, rfl⟩
                  rw [← hT] at tab hTs hT2
                  rw [← hY] at hTs hset
                  replace hTs := hid hTs
                  replace hset := hid hset
                  replace hT := hid hT
                  replace hY := hid hY
                  clear hnS
                  go_upto_region 16 with fail
                  have tabX : TabX (wo.alloc (.cells #[] 3)) B (.slice dS nS mS) T (.slice (some ⟨wo.heap.size, 0, none⟩) 0 0) (List.replicate 0 (-1)) [osRow B [.slice fM M.length cM, .slice dS nS mS]] := tab.lit #[] [] hBo rfl rfl (by simp) (n := 0)
                  have b1 : Below B w4 (wo.alloc (.cells #[] 3)) := hb.alloc hBo _
                  generalize wo.alloc (.cells #[] 3) = w6 at *
                  generalize wo.heap.size = g6 at *
                  clear tab
                  go_wp2_with fail
                  go_loopw [11, 12] (fun rv i wr => ∃ q : Nat, q ≤ M.length ∧ i = .int .i64 q ∧ TabX wr B (.slice dS nS mS) T rv (List.replicate q (-1)) [osRow B [.slice fM M.length cM, .slice dS nS mS]] ∧ Below B w4 wr) (fun _ i _ => M.length - (intOf i).toNat)
                  case atStart => exact ⟨0, by omega, rfl, tabX, b1⟩
                  case round =>
                    clear tabX b1
                    obtain ⟨q, hq, rfl, tab, hb⟩ := hrel
                    obtain ⟨wq, rfl⟩ : ∃ y : World, y = wr := ⟨_, rfl⟩
                    have hBq := hBs.out _ hb
                    by_cases hlq : q < M.length
                    · obtain ⟨d6, n6, m6, rfl, hn6⟩ := tab.rformN
                      have hsn : List.replicate (q + 1) (-1 : Int) = List.replicate q (-1) ++ [-1] := List.replicate_succ'
                      have hlx : (List.replicate q (-1 : Int)).length ≤ 1000 := by rw [List.length_replicate]; omega
                      obtain ⟨L, hL⟩ : ∃ l, l = List.replicate q (-1 : Int) := ⟨_, rfl⟩
                      rw [← hL] at tab hsn hlx
                      replace hsn := hid hsn
                      replace hL := hid hL
                      clear hn6
                      go_wp2_with (at_builtin; refine wpList_grow rfl (.tmp 82) (.tmp 83) rfl rfl tab hBq rfl (by omega) ?_; intro v7 w7 tab7 b7)
                      go_roundw
                      case rel => exact ⟨q + 1, by omega, by go_num, by rw [hsn.out]; exact tab7, hb.trans b7⟩
                      case measure => simp [intOf]; omega
                    · obtain ⟨d6, m6, rfl⟩ := tab.rform
                      rw [List.length_replicate] at tab ⊢
                      have hqn : q = M.length := by omega
                      subst hqn
                      obtain ⟨vs, hvl, own⟩ := tab
                      have own' : Own wq B (⟨3, 1, .slice d6 M.length m6, M.length, (List.replicate M.length (-1 : Int)).map (Value.int .i64)⟩ :: (rowsOf 27 3 (.slice dS nS mS) vs T ++ [osRow B [.slice fM M.length cM, .slice dS nS mS]])) := by
                        have h := own
                        unfold intRowOf at h
                        rw [List.length_replicate] at h
                        exact h
                      obtain ⟨g, rfl⟩ := own'.at hlt
                      have c1 : wq.cell? ⟨g, r, none⟩ = some (.int .i64 (-1)) := by
                        rw [own'.cellAt (w' := wq) hlt]; simp [hlt]
                      have f1 := own'.frozenAt r
                      have own2 := own'.set r (.int .i64 0)
                      have b2 : Below B w4 (wq.setCell ⟨g, r, none⟩ (.int .i64 0)) := hb.setCell own'.lt.1 _
                      rw [← List.map_set, hset.out] at own2
                      have hYl := hid (show Y.length = M.length by rw [← hset.out, List.length_set, List.length_replicate])
                      have tab8 : TabX (wq.setCell ⟨g, r, none⟩ (.int .i64 0)) B (.slice dS nS mS) T (.slice (some ⟨g, 0, none⟩) M.length m6) Y [osRow B [.slice fM M.length cM, .slice dS nS mS]] := by
                        refine ⟨vs, hvl, ?_⟩
                        unfold intRowOf
                        rw [hYl.out]
                        exact own2
                      clear own own' own2
                      go_upto_region 21 with fail
                      clear c1 f1
                      generalize wq.setCell ⟨g, r, none⟩ (.int .i64 0) = wS at *
                      have hBS := hBs.out _ b2
                      have y2 : wS.cell? ⟨B, 1, none⟩ = some (.slice dS nS mS) := (tab8.tab.boxAt (j := 1) (by omega)).1
                      go_wp2_with (at_builtin; refine wpList_push rfl (.tmp 89) (.tmp 91) rfl rfl tab8 hBS rfl (by omega) ?_; intro v9 w9 tab9 b9; obtain ⟨d9, n9, m9, hv9, hn9⟩ := tab9.formN; subst hv9; (have y9 := tab9.boxAt (j := 1) (by omega)); (have y9a : w9.cell? ⟨B, 1, none⟩ = some (.slice dS nS mS) := y9.1); have y9b := y9.2)
                      have tabF := tab9.setBox 1 (.slice d9 n9 m9)
                      go_roundw
                      case rel => exact ⟨r + 1, by omega, by go_num, ⟨.slice d9 n9 m9, by rw [hTs.out]; exact tabF.1⟩, (b2.trans b9).setCell tabF.2 _⟩
                      case measure => simp [intOf]; omega
                · have hrn : r = M.length := by omega
                  have htk : (osS M.length).take r = osS M.length := List.take_of_length_le (by rw [hol.out]; omega)
                  rw [htk] at tab hnS
                  rw [hol.out] at hnS
                  replace hrn := hid hrn
                  replace htk := hid htk
                  have z0 : wo.cell? ⟨B, 0, none⟩ = some (.slice fM M.length cM) := (tab.boxAt (j := 0) (by omega)).1
                  have z1 : wo.cell? ⟨B, 1, none⟩ = some (.slice dS nS mS) := (tab.boxAt (j := 1) (by omega)).1
                  have hrd := tab.reads (by unfold ShortRows; rw [hol.out]; omega) (fun y hy => by
                    obtain ⟨i, hi, rfl⟩ := List.mem_map.1 hy
                    unfold Short; rw [List.length_map, List.length_range]; omega) (fun y hy x hx => by
                    obtain ⟨i, hi, rfl⟩ := List.mem_map.1 hy
                    obtain ⟨j, hj, rfl⟩ := List.mem_map.1 hx
                    unfold I64
                    split <;> omega)
                  have e14 : Ext w1 wo := Ext.trans g4 eo
                  have ewo : Ext w wo := Ext.trans gw4 eo
                  have hmR : IsRows wo (.slice fM M.length cM) M := by
                    obtain ⟨v1, hv1, hR⟩ := hm
                    cases hv1
                    exact hR.ext (e := e14)
                  have hpr : IsProb wo (.agg #[.slice fM M.length cM, .slice dS nS mS]) M (osS M.length) := ⟨_, _, rfl, hmR, hrd⟩
                  have hmo := hm.ext (e := e14)
                  have hsto := hst.ext (e := e14)
                  have hXo := hX.ext (e := e14)
                  have xo := eo.cell x4
                  have hco := eo.cell hca
                  have hn4 := hid (show M.length ≤ 4 by omega)
                  clear tab hrd hmR hm hst hX x4 hca hnS
                  go_upto_region 22 with fail
                  have hSx := hid (show ∀ u, Ext wo u → u.cell? ⟨B, 0, none⟩ = some (.slice fM M.length cM) ∧ u.cell? ⟨B, 1, none⟩ = some (.slice dS nS mS) ∧ u.cell? ⟨ba, oa, none⟩ = some (.int .i64 s) from fun u e => ⟨e.cell z0, e.cell z1, e.cell hco⟩)
                  clear z0 z1
                  refine region_held_from (w0 := wo) (S := fun u => u.cell? ⟨B, 0, none⟩ = some (.slice fM M.length cM) ∧ u.cell? ⟨B, 1, none⟩ = some (.slice dS nS mS) ∧ u.cell? ⟨ba, oa, none⟩ = some (.int .i64 s)) (by kernel_rfl) hSx.out (fun wz ez hHeld0 => ?_)
                  refine wpAnyH_take (i := 0) (v := .agg #[.slice fM M.length cM, .slice dS nS mS]) rfl (by kernel_rfl) (by kernel_rfl) (by kernel_rfl) (fun _ _ _ h => h) (Or.inl ⟨by rfl, by intro wx hx; obtain ⟨_, _, _⟩ := hx; go_simp⟩) (by assumption) ?_
                  try simp only [List.getElem_toArray, List.getElem_cons_zero, Act.put, List.setIfInBounds_toArray, List.set_cons_zero, List.set_cons_succ]
                  refine wpAnyH_take (i := 1) (v := .slice (some ⟨ba, oa, none⟩) 1 ma) rfl (by kernel_rfl) (by kernel_rfl) (by kernel_rfl) (fun _ _ _ h => h) (Or.inl ⟨by rfl, by intro wx hx; go_simp⟩) (by assumption) ?_
                  try simp only [List.getElem_toArray, List.getElem_cons_succ, List.getElem_cons_zero, Act.put, List.setIfInBounds_toArray, List.set_cons_zero, List.set_cons_succ]
                  refine wpAnyH_take (i := 2) (v := .pointer (some ⟨ba, oa, none⟩)) rfl (by kernel_rfl) (by kernel_rfl) (by kernel_rfl) (fun _ _ _ h => h) (Or.inl ⟨by rfl, by intro wx hx; go_simp⟩) (by assumption) ?_
                  try simp only [List.getElem_toArray, List.getElem_cons_succ, List.getElem_cons_zero, Act.put, List.setIfInBounds_toArray, List.set_cons_zero, List.set_cons_succ]
                  refine wpAnyH_take (i := 3) (v := .int .i64 s) rfl (by kernel_rfl) (by kernel_rfl) (by kernel_rfl) (fun _ _ _ h => h) (Or.inl ⟨by rfl, by intro wx hx; obtain ⟨_, _, _⟩ := hx; go_simp⟩) (by assumption) ?_
                  try simp only [List.getElem_toArray, List.getElem_cons_succ, List.getElem_cons_zero, Act.put, List.setIfInBounds_toArray, List.set_cons_zero, List.set_cons_succ]
                  refine wpAnyH_take (i := 4) (v := .slice dx X.length mx) rfl (by kernel_rfl) (by kernel_rfl) (by kernel_rfl) (fun _ _ _ h => h) (Or.inl ⟨by rfl, by intro wx hx; go_simp⟩) (by assumption) ?_
                  try simp only [List.getElem_toArray, List.getElem_cons_succ, List.getElem_cons_zero, Act.put, List.setIfInBounds_toArray, List.set_cons_zero, List.set_cons_succ]
                  refine wpAnyH_ready (rs := [5]) (by kernel_rfl) (by simp) ?_
                  refine AllReadyH.cons rfl (fun K hK => ?_) AllReadyH.nil
                  go_simp
                  have hpz := hpr.ext (e := ez)
                  have hXz := hXo.ext (e := ez)
                  go_at_call 9
                  obtain ⟨J, hJ⟩ : ∃ q, q = lcR M (osS M.length) s X := ⟨_, rfl⟩
                  replace hJ := hid hJ
                  with_reducible refine (rLeast_any (w0 := wz) (w := wz) hpz hsi hXz).mono ?_
                  rw [← hJ.out]
                  rintro e w9 ⟨rfl, e9⟩
                  have eo9 : Ext wo w9 := Ext.trans ez e9
                  have hS9 := hid (hSx.out w9 eo9)
                  have x9 := eo9.cell xo
                  clear hpz hXz hHeld0 hSx xo
                  go_wp2_with fail
                  refine hK.out _ _ hS9.out (fun _ => ?_)
                  clear hK K
                  try simp only [List.getElem_toArray, List.getElem_cons_succ, List.getElem_cons_zero, Act.put, List.setIfInBounds_toArray, List.set_cons_zero, List.set_cons_succ]
                  refine wpAnyH_take (i := 6) (v := .tuple #[.int .i64 J, .bool true]) rfl (by kernel_rfl) (by kernel_rfl) (by kernel_rfl) (fun _ _ _ h => h) (Or.inl ⟨by rfl, by intro wx hx; go_simp⟩) (by assumption) ?_
                  try simp only [List.getElem_toArray, List.getElem_cons_succ, List.getElem_cons_zero, Act.put, List.setIfInBounds_toArray, List.set_cons_zero, List.set_cons_succ]
                  refine wpAnyH_take (i := 7) (v := .int .i64 J) rfl (by kernel_rfl) (by kernel_rfl) (by kernel_rfl) (fun _ _ _ h => h) (Or.inl ⟨by rfl, by intro wx hx; go_simp⟩) (by assumption) ?_
                  try simp only [List.getElem_toArray, List.getElem_cons_succ, List.getElem_cons_zero, Act.put, List.setIfInBounds_toArray, List.set_cons_zero, List.set_cons_succ]
                  refine wpAnyH_take (i := 8) (v := .bool true) rfl (by kernel_rfl) (by kernel_rfl) (by kernel_rfl) (fun _ _ _ h => h) (Or.inl ⟨by rfl, by intro wx hx; go_simp⟩) (by assumption) ?_
                  try simp only [List.getElem_toArray, List.getElem_cons_succ, List.getElem_cons_zero, Act.put, List.setIfInBounds_toArray, List.set_cons_zero, List.set_cons_succ]
                  refine wpAnyH_take (i := 9) (v := .int .i64 J) rfl (by kernel_rfl) (by kernel_rfl) (by kernel_rfl) (fun _ _ _ h => h) (Or.inl ⟨by rfl, by intro wx hx; go_simp⟩) (by assumption) ?_
                  try simp only [List.getElem_toArray, List.getElem_cons_succ, List.getElem_cons_zero, Act.put, List.setIfInBounds_toArray, List.set_cons_zero, List.set_cons_succ]
                  refine wpAnyH_take (i := 10) (v := .bool true) rfl (by kernel_rfl) (by kernel_rfl) (by kernel_rfl) (fun _ _ _ h => h) (Or.inl ⟨by rfl, by intro wx hx; go_simp⟩) (by assumption) ?_
                  try simp only [List.getElem_toArray, List.getElem_cons_succ, List.getElem_cons_zero, Act.put, List.setIfInBounds_toArray, List.set_cons_zero, List.set_cons_succ]
                  refine wpAnyH_done (by kernel_rfl) ?_ _
                  clear hS9
                  obtain ⟨P, hP⟩ : ∃ q, q = srvB M [s] X := ⟨_, rfl⟩
                  obtain ⟨K, hK⟩ : ∃ q, q = lwR M [s] X := ⟨_, rfl⟩
                  obtain ⟨G, hG⟩ : ∃ q, q = gsS M [s] X := ⟨_, rfl⟩
                  replace hP := hid hP
                  replace hK := hid hK
                  replace hG := hid hG
                  have hPP : (P != P) = false := by simp
                  have hKK : (K != K) = false := by simp
                  have hGG : (G != G) = false := by simp
                  go_wp2_with fail
                  with_reducible refine (implLeast_any (w0 := wo) (w := w9) hmo hsto hXo).mono ?_
                  rw [← hP.out, ← hK.out]
                  rintro e w10 ⟨rfl, e10⟩
                  have x10 := e10.cell x9
                  have eo10 : Ext wo w10 := Ext.trans eo9 e10
                  clear x9
                  go_wp2_with fail
                  with_reducible refine (specLeast_any (w0 := wo) (w := w10) hmo hsto hXo).mono ?_
                  rw [← hP.out, ← hK.out]
                  rintro e w11 ⟨rfl, e11⟩
                  have x11 := e11.cell x10
                  have eo11 : Ext wo w11 := Ext.trans eo10 e11
                  clear x10
                  go_wp2_with fail
                  with_reducible refine (implGs_any (w0 := wo) (w := w11) hmo hsto hXo).mono ?_
                  rw [← hP.out, ← hG.out]
                  rintro e w12 ⟨u12, rfl, hT12, e12⟩
                  have x12 := e12.cell x11
                  have eo12 : Ext wo w12 := Ext.trans eo11 e12
                  obtain ⟨d12, m12, rfl, l12⟩ := hT12.form
                  clear x11
                  go_wp2_with fail
                  with_reducible refine (specGs_any (w0 := wo) (w := w12) hmo hsto hXo).mono ?_
                  rw [← hP.out, ← hG.out]
                  rintro e w13 ⟨u13, rfl, hT13, e13⟩
                  have eo13 : Ext wo w13 := Ext.trans eo12 e13
                  have ew13 : Ext w w13 := Ext.trans ewo eo13
                  obtain ⟨d13, m13, rfl, l13⟩ := hT13.form
                  clear x12 hT12 hT13
                  cases P with
                  | false =>
                    go_wp2_with fail
                    go_ret
                    exact ⟨rfl, ew13⟩
                  | true =>
                    obtain ⟨q1, q2, q3⟩ := os_law hn4.out hP.out.symm
                    have hJK : J = K := by rw [hJ.out, lcR, if_pos q1, q2, hK.out]
                    have hGK : G = K := by rw [hG.out, q3, hK.out]
                    subst hJK hGK
                    have hee : (G == G) = true := by simp
                    go_wp2_with fail
                    go_ret
                    exact ⟨rfl, ew13⟩
end Go.Proofs.YtkibmjenjgijmaaGreat
