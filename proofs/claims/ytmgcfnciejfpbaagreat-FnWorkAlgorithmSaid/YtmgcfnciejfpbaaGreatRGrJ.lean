/- Several texts in one: Ch7 RnS RnI. -/
import Derived.Test.YtmgcfnciejfpbaaGreatRGrH
import Derived.Test.YtmgcfnciejfpbaaGreatRGrF
import Derived.Test.YtmgcfnciejfpbaaGreatRGrI
import Derived.Test.YtmgcfnciejfpbaaGreatRSvI
namespace Go.Proofs.YtmgcfnciejfpbaaGreat
open Go.RowKit

def askB (M : List (List Int)) (k : Int) : Bool := metB M && inB k 1 3
def givB (M : List (List Int)) (k : Int) (ws : List Int) (r : Int) : Bool := askB M k && (inB r 0 (M.length - 1) && workB M (confs M.length k.toNat 0) ws)
theorem askB_iff {M : List (List Int)} {k : Int} : askB M k = true ↔ metB M = true ∧ 1 ≤ k ∧ k ≤ 3 := by simp [askB, inB]
theorem isSmall_any {v : Value} {l : List Int} {w0 w : World} [Ext w0 w] (hl : IsInts w0 v l) :
    Calls Tryz.prog 71 #[v] w fun e w' => e = .returned (.bool (belowB 100000 l)) ∧ Ext w w' := by
  have hl' := hl
  obtain ⟨a, c, rfl, la⟩ := hl.form
  go_enter Tryz.func71, Tryz.ntmps71
  go_wp2_with fail
  with_reducible refine (areBelow_any (w0 := w0) hl' (by omega) (by omega)).mono ?_
  rintro e w1 ⟨rfl, e1⟩
  go_wp2_with fail
  go_ret
  exact ⟨rfl, e1⟩
set_option maxHeartbeats 400000 in
theorem isPoint_any {v : Value} {M : List (List Int)} {x : Int} {w0 w : World} [Ext w0 w] (hm : IsMet w0 v M) :
    Calls Tryz.prog 69 #[v, .int .i64 x] w fun e w' => e = .returned (.bool (inB x 0 (M.length - 1))) ∧ Ext w w' := by
  obtain ⟨v1, rfl, hR⟩ := hm
  obtain ⟨a1, c1, rfl, l1⟩ := hR.form
  go_enter Tryz.func69, Tryz.ntmps69
  go_wp2_with (go_at_call 126; refine (within_any _ _ _ _).mono ?_; rintro e w' ⟨rfl, rfl⟩)
  go_ret
  exact ⟨rfl, inferInstance⟩
set_option maxHeartbeats 800000 in
set_option maxRecDepth 100000 in
theorem isKs_any {v : Value} {M : List (List Int)} {k : Int} {w0 w : World} [Ext w0 w] (hm : IsMet w0 v M) :
    Calls Tryz.prog 61 #[v, .int .i64 k] w fun e w' => e = .returned (.bool (askB M k)) ∧ Ext w w' := by
  have hm' := hm
  obtain ⟨v1, rfl, hR⟩ := hm
  obtain ⟨a1, c1, rfl, l1⟩ := hR.form
  obtain ⟨RES, hRES⟩ : ∃ b, b = askB M k := ⟨_, rfl⟩
  rw [← hRES]
  replace hRES := hid hRES
  cases hc0 : metB M with
  | false =>
    replace hc0 := hid hc0
    have hr := hid (show RES = false by rw [hRES.out]; simp [askB, hc0.out])
    go_enter Tryz.func61, Tryz.ntmps61
    go_wp2_with fail
    with_reducible refine (IsMetric_any (w0 := w0) hm').mono ?_
    rw [hc0.out]
    rintro e w1 ⟨rfl, hb1⟩
    have g1 : Ext w w1 := Ext.trans inferInstance hb1
    have e01 : Ext w0 w1 := Ext.trans ‹Ext w0 w› g1
    go_wp2_with fail
    go_ret
    exact ⟨ret_bool hr.out.symm, g1⟩
  | true =>
    replace hc0 := hid hc0
    cases hc1 : inB k 1 3 with
    | false =>
      replace hc1 := hid hc1
      have hr := hid (show RES = false by rw [hRES.out]; simp [askB, hc0.out, hc1.out])
      go_enter Tryz.func61, Tryz.ntmps61
      go_wp2_with fail
      with_reducible refine (IsMetric_any (w0 := w0) hm').mono ?_
      rw [hc0.out]
      rintro e w1 ⟨rfl, hb1⟩
      have g1 : Ext w w1 := Ext.trans inferInstance hb1
      have e01 : Ext w0 w1 := Ext.trans ‹Ext w0 w› g1
      go_wp2_with fail
      with_reducible refine (isServers_any _ _).mono ?_
      rw [hc1.out]
      rintro e wx ⟨rfl, rfl⟩
      go_wp2_with fail
      go_ret
      exact ⟨ret_bool hr.out.symm, g1⟩
    | true =>
      replace hc1 := hid hc1
      have hr := hid (show RES = true by rw [hRES.out]; simp [askB, hc0.out, hc1.out])
      go_enter Tryz.func61, Tryz.ntmps61
      go_wp2_with fail
      with_reducible refine (IsMetric_any (w0 := w0) hm').mono ?_
      rw [hc0.out]
      rintro e w1 ⟨rfl, hb1⟩
      have g1 : Ext w w1 := Ext.trans inferInstance hb1
      have e01 : Ext w0 w1 := Ext.trans ‹Ext w0 w› g1
      go_wp2_with fail
      with_reducible refine (isServers_any _ _).mono ?_
      rw [hc1.out]
      rintro e wx ⟨rfl, rfl⟩
      go_wp2_with fail
      go_ret
      exact ⟨ret_bool hr.out.symm, g1⟩
set_option maxHeartbeats 800000 in
set_option maxRecDepth 100000 in
theorem l7Asked_any {v : Value} {M : List (List Int)} {k : Int} {w0 w : World} [Ext w0 w] (hm : IsMet w0 v M) :
    Calls Tryz.prog 64 #[v, .int .i64 k] w fun e w' => e = .returned (.bool (askB M k)) ∧ Ext w w' := by
  have hm' := hm
  obtain ⟨v1, rfl, hR⟩ := hm
  obtain ⟨a1, c1, rfl, l1⟩ := hR.form
  obtain ⟨RES, hRES⟩ : ∃ b, b = askB M k := ⟨_, rfl⟩
  rw [← hRES]
  replace hRES := hid hRES
  cases hc0 : metB M with
  | false =>
    replace hc0 := hid hc0
    have hr := hid (show RES = false by rw [hRES.out]; simp [askB, hc0.out])
    go_enter Tryz.func64, Tryz.ntmps64
    go_wp2_with fail
    with_reducible refine (l6Good_any (w0 := w0) hm').mono ?_
    rw [hc0.out]
    rintro e w1 ⟨rfl, hb1⟩
    have g1 : Ext w w1 := Ext.trans inferInstance hb1
    have e01 : Ext w0 w1 := Ext.trans ‹Ext w0 w› g1
    go_wp2_with fail
    go_ret
    exact ⟨ret_bool hr.out.symm, g1⟩
  | true =>
    replace hc0 := hid hc0
    cases hc1 : inB k 1 3 with
    | false =>
      replace hc1 := hid hc1
      have hr := hid (show RES = false by rw [hRES.out]; simp [askB, hc0.out, hc1.out])
      go_enter Tryz.func64, Tryz.ntmps64
      go_wp2_with fail
      with_reducible refine (l6Good_any (w0 := w0) hm').mono ?_
      rw [hc0.out]
      rintro e w1 ⟨rfl, hb1⟩
      have g1 : Ext w w1 := Ext.trans inferInstance hb1
      have e01 : Ext w0 w1 := Ext.trans ‹Ext w0 w› g1
      go_wp2_with fail
      with_reducible refine (l1In_any _ _ _ _).mono ?_
      rw [hc1.out]
      rintro e wx ⟨rfl, rfl⟩
      go_wp2_with fail
      go_ret
      exact ⟨ret_bool hr.out.symm, g1⟩
    | true =>
      replace hc1 := hid hc1
      have hr := hid (show RES = true by rw [hRES.out]; simp [askB, hc0.out, hc1.out])
      go_enter Tryz.func64, Tryz.ntmps64
      go_wp2_with fail
      with_reducible refine (l6Good_any (w0 := w0) hm').mono ?_
      rw [hc0.out]
      rintro e w1 ⟨rfl, hb1⟩
      have g1 : Ext w w1 := Ext.trans inferInstance hb1
      have e01 : Ext w0 w1 := Ext.trans ‹Ext w0 w› g1
      go_wp2_with fail
      with_reducible refine (l1In_any _ _ _ _).mono ?_
      rw [hc1.out]
      rintro e wx ⟨rfl, rfl⟩
      go_wp2_with fail
      go_ret
      exact ⟨ret_bool hr.out.symm, g1⟩
end Go.Proofs.YtmgcfnciejfpbaaGreat
namespace Go.Proofs.YtmgcfnciejfpbaaGreat
open Go.RowKit

theorem perm_c {α : Type} (x n t v : α) (Z : List α) : (t :: x :: (Z ++ [n, v])).Perm (x :: n :: t :: (Z ++ [v])) := by
  classical
  refine List.perm_iff_count.2 fun y => ?_
  simp only [List.count_append, List.count_cons, List.count_nil]
  omega
theorem rows_in0 {w : World} {B e1 e2 : Nat} {v rv : Value} {vs : List Value} {M : List (List Int)} {xs : List Int} {R : List Row} (h : Own w B (⟨e1, 1, v, vs.length + 1, vs ++ [rv]⟩ :: (intRowOf e2 rv xs :: (List.zipWith (intRowOf e2) vs M ++ R)))) (hl : vs.length = M.length) :
    Own w B (valRowOf e1 v (vs ++ [rv]) :: (List.zipWith (intRowOf e2) (vs ++ [rv]) (M ++ [xs]) ++ R)) := by
  have e : (valRowOf e1 v (vs ++ [rv]) :: (List.zipWith (intRowOf e2) (vs ++ [rv]) (M ++ [xs]) ++ R)) = (⟨e1, 1, v, vs.length + 1, vs ++ [rv]⟩ : Row) :: (List.zipWith (intRowOf e2) vs M ++ (intRowOf e2 rv xs :: R)) := by
    unfold valRowOf
    rw [List.zipWith_append hl, List.length_append]
    simp
  rw [e]
  exact h.perm (List.Perm.cons _ List.perm_middle)
theorem own_at {w : World} {B e1 e2 : Nat} {ov : Value} {vs : List Value} {L : List (List Int)} {R : List Row} (h : Own w B (valRowOf e1 ov vs :: (List.zipWith (intRowOf e2) vs L ++ R))) (hl : vs.length = L.length) {j : Nat} (hj : j < L.length) (hs : Short (row L j).length) (hi : ∀ x ∈ row L j, I64 x) : IsInts w (vs.getD j undef) (row L j) := by
  have h1 : (List.zipWith (intRowOf e2) vs L ++ R)[j]? = some (intRowOf e2 (vs.getD j undef) (row L j)) := by
    have hj' : j < vs.length := by omega
    rw [List.getElem?_append_left (by simp; omega)]
    simp [List.getElem?_zipWith, hj', row, hj]
  exact (h.tail.pick h1).reads hs hi
set_option maxHeartbeats 1600000 in
set_option maxRecDepth 100000 in
theorem l7Start_any {v va : Value} {M : List (List Int)} {a : List Int} {k : Nat} {w0 w : World} [Ext w0 w] (hm : IsMet w0 v M) (hM : metB M = true) (ha : IsInts w0 va a) (hk : k ≤ 3) (hac : a ∈ confs M.length k 0) :
    Calls Tryz.prog 86 #[v, .int .i64 k, va] w fun e w' => ∃ u, e = .returned u ∧ Own w' w.heap.size [intRowOf 3 u (wst M (confs M.length k 0) a)] ∧ Ext w w' := by
  have hm' := hm
  obtain ⟨v1, rfl, hR⟩ := hm
  obtain ⟨a1, c1, rfl, l1⟩ := hR.form
  have ha' := ha
  obtain ⟨da, ma, rfl, la⟩ := ha.form
  have hMl := met_len hM
  have hdst := hid (dst_of_met hM)
  have hM' := hid hM
  clear hM
  obtain ⟨hak, _, hap0⟩ := confs_iff.1 hac
  have hap : Pts M.length a := fun x hx => by have := hap0 x hx; omega
  clear hap0
  have hgood := hid (start_good hdst.out hk hac)
  replace hac := hid hac
  replace hak := hid hak
  have hPm := hid (show ∀ i, i < (confs M.length k 0).length → (row (confs M.length k 0) i).length = k ∧ Pts M.length (row (confs M.length k 0) i) from fun i hi => by
    obtain ⟨h1, h2, _⟩ := row_conf hi
    exact ⟨h1, h2⟩)
  have h216 := confs_216 hMl.2 hk
  go_enter Tryz.func86, Tryz.ntmps86
  go_wp2_with fail
  refine (l6Configs_any (n := M.length) hMl.2 hk _).mono ?_
  rintro e wP ⟨vP, rfl, hP, eP⟩
  have x0 : wP.cell? ⟨w.heap.size, 0, none⟩ = some (.slice a1 M.length c1) := eP.cell (by go_simp)
  have ePw : Ext w wP := Ext.trans inferInstance eP
  have e0P : Ext w0 wP := Ext.trans ‹Ext w0 w› ePw
  clear eP
  obtain ⟨bx, hbx⟩ : ∃ q, q = w.heap.size := ⟨_, rfl⟩
  rw [← hbx] at x0 ⊢
  have hBw := hid (show w.heap.size ≤ wP.heap.size from ePw.size)
  replace hbx := hid hbx
  obtain ⟨P, hPd⟩ : ∃ p, p = confs M.length k 0 := ⟨_, rfl⟩
  rw [← hPd] at hP hPm hgood h216
  replace hPd := hid hPd
  obtain ⟨aP, cP, rfl, lP⟩ := hP.form
  obtain ⟨Xs, hXs⟩ : ∃ x, x = P.map fun b => mvC M a b := ⟨_, rfl⟩
  have hXl := hid (show Xs.length = P.length by rw [hXs, List.length_map])
  have hXn := hid (show ∀ i, i < P.length → nth Xs i = mvC M a (row P i) from fun i hi => by rw [hXs]; simp [nth, row, hi])
  rw [← hXs] at hgood
  replace hXs := hid hXs
  obtain ⟨B, hB⟩ : ∃ b, b = wP.heap.size := ⟨_, rfl⟩
  have own0 : Own (wP.alloc (.cells #[] 3)) B [intRowOf 3 (.slice (some ⟨wP.heap.size, 0, none⟩) ([] : List Int).length 0) []] := by
    rw [hB]
    exact Own.litInts (Nat.le_refl _) rfl rfl (by simp) rfl
  have b0 : Below B wP (wP.alloc (.cells #[] 3)) := by rw [hB]; exact (Below.refl _ _).alloc (Nat.le_refl _) _
  have hEx := hid (show ∀ u, Below B wP u → Ext wP u from fun u h => ⟨by rw [← hB]; exact h⟩)
  rw [← hB] at hBw
  replace hB := hid hB
  go_wp2_with fail
  go_loopw [8, 9] (fun ov i wr => ∃ j : Nat, j ≤ P.length ∧ i = .int .i64 j ∧ Own wr B [intRowOf 3 ov (Xs.take j)] ∧ Below B wP wr) (fun _ i _ => P.length - (intOf i).toNat)
  case atStart => exact ⟨0, by omega, rfl, own0, b0⟩
  case round =>
    obtain ⟨j, hj, rfl, hown, hb⟩ := hrel
    obtain ⟨wq, rfl⟩ : ∃ y : World, y = wr := ⟨_, rfl⟩
    obtain ⟨d0, n0, m0, rfl, hn0⟩ := own_formN hown
    clear own0 b0
    have eq : Ext wP wq := hEx.out _ hb
    have e0q : Ext w0 wq := Ext.trans e0P eq
    have hBq : B ≤ wq.heap.size := by rw [hB.out]; exact eq.size
    by_cases hlt : j < P.length
    · obtain ⟨bP, oP, dr, mr, hdP, hc1, hi1, _⟩ := hP.at (w' := wP) hlt
      cases hdP
      obtain ⟨hcl, hcp⟩ := hPm.out j hlt
      have hXj := hid (show Xs.take (j + 1) = Xs.take j ++ [mvC M a (row P j)] by rw [take_succ_nth (by rw [hXl.out]; exact hlt), hXn.out j hlt])
      have hT : (Xs.take j).length ≤ 1000 := by rw [List.length_take]; omega
      have hn1000 : n0 ≤ 1000 := by rw [hn0.out]; exact hT
      obtain ⟨T, hTd⟩ : ∃ l, l = Xs.take j := ⟨_, rfl⟩
      rw [← hTd] at hown hn0 hXj hT
      replace hTd := hid hTd
      have hown' : Own wq B [⟨3, 1, .slice d0 n0 m0, n0, T.map (Value.int .i64)⟩] := by rw [hn0.out]; rw [hn0.out] at hown; exact hown
      clear hown
      obtain ⟨c, hc⟩ : ∃ y, y = row P j := ⟨_, rfl⟩
      rw [← hc] at hc1 hi1 hcl hcp hXj
      replace hc := hid hc
      replace hcl := hid hcl
      replace hcp := hid hcp
      have hSb := hid (show ∀ u, Below B wP u → u.cell? ⟨bx, 0, none⟩ = some (.slice a1 M.length c1) ∧ u.cell? ⟨bP, oP + j, none⟩ = some (.slice dr c.length mr) from fun u h => ⟨(hEx.out _ h).cell x0, (hEx.out _ h).cell hc1⟩)
      have hSx := hid (show ∀ u, Ext wq u → u.cell? ⟨bx, 0, none⟩ = some (.slice a1 M.length c1) ∧ u.cell? ⟨bP, oP + j, none⟩ = some (.slice dr c.length mr) from fun u e => ⟨(Ext.trans eq e).cell x0, (Ext.trans eq e).cell hc1⟩)
      clear hc1
      go_wp2_with fail
      refine region_held_from (w0 := wq) (S := fun u => u.cell? ⟨bx, 0, none⟩ = some (.slice a1 M.length c1) ∧ u.cell? ⟨bP, oP + j, none⟩ = some (.slice dr c.length mr)) (by kernel_rfl) hSx.out (fun wd ed hHeld0 => ?_)
      have ownd := hown'.ext (w' := wd)
      refine wpAnyH_take (i := 0) (v := .slice d0 n0 m0) rfl (by kernel_rfl) (by kernel_rfl) (by kernel_rfl) (fun _ _ _ h => h) (Or.inl ⟨by rfl, by intro wx hx; go_simp⟩) (by assumption) ?_
      try simp only [List.getElem_toArray, List.getElem_cons_zero, Act.put, List.setIfInBounds_toArray, List.set_cons_zero, List.set_cons_succ]
      refine wpAnyH_take (i := 1) (v := .agg #[.slice a1 M.length c1]) rfl (by kernel_rfl) (by kernel_rfl) (by kernel_rfl) (fun _ _ _ h => h) (Or.inl ⟨by rfl, by intro wx hx; obtain ⟨_, _⟩ := hx; go_simp⟩) (by assumption) ?_
      try simp only [List.getElem_toArray, List.getElem_cons_succ, List.getElem_cons_zero, Act.put, List.setIfInBounds_toArray, List.set_cons_zero, List.set_cons_succ]
      refine wpAnyH_take (i := 2) (v := .slice da a.length ma) rfl (by kernel_rfl) (by kernel_rfl) (by kernel_rfl) (fun _ _ _ h => h) (Or.inl ⟨by rfl, by intro wx hx; go_simp⟩) (by assumption) ?_
      try simp only [List.getElem_toArray, List.getElem_cons_succ, List.getElem_cons_zero, Act.put, List.setIfInBounds_toArray, List.set_cons_zero, List.set_cons_succ]
      refine wpAnyH_take (i := 3) (v := .slice (some ⟨bP, oP, none⟩) P.length cP) rfl (by kernel_rfl) (by kernel_rfl) (by kernel_rfl) (fun _ _ _ h => h) (Or.inl ⟨by rfl, by intro wx hx; go_simp⟩) (by assumption) ?_
      try simp only [List.getElem_toArray, List.getElem_cons_succ, List.getElem_cons_zero, Act.put, List.setIfInBounds_toArray, List.set_cons_zero, List.set_cons_succ]
      refine wpAnyH_take (i := 4) (v := .int .i64 j) rfl (by kernel_rfl) (by kernel_rfl) (by kernel_rfl) (fun _ _ _ h => h) (Or.inl ⟨by rfl, by intro wx hx; go_simp⟩) (by assumption) ?_
      try simp only [List.getElem_toArray, List.getElem_cons_succ, List.getElem_cons_zero, Act.put, List.setIfInBounds_toArray, List.set_cons_zero, List.set_cons_succ]
      refine wpAnyH_take (i := 5) (v := .pointer (some ⟨bP, oP + j, none⟩)) rfl (by kernel_rfl) (by kernel_rfl) (by kernel_rfl) (fun _ _ _ h => h) (Or.inl ⟨by rfl, by intro wx hx; go_simp⟩) (by assumption) ?_
      try simp only [List.getElem_toArray, List.getElem_cons_succ, List.getElem_cons_zero, Act.put, List.setIfInBounds_toArray, List.set_cons_zero, List.set_cons_succ]
      refine wpAnyH_take (i := 6) (v := .slice dr c.length mr) rfl (by kernel_rfl) (by kernel_rfl) (by kernel_rfl) (fun _ _ _ h => h) (Or.inl ⟨by rfl, by intro wx hx; obtain ⟨_, _⟩ := hx; go_simp⟩) (by assumption) ?_
      try simp only [List.getElem_toArray, List.getElem_cons_succ, List.getElem_cons_zero, Act.put, List.setIfInBounds_toArray, List.set_cons_zero, List.set_cons_succ]
      refine wpAnyH_ready (rs := [7]) (by kernel_rfl) (by simp) ?_
      refine AllReadyH.cons rfl (fun K hK => ?_) AllReadyH.nil
      go_simp
      go_at_call 110
      have e0d : Ext w0 wd := Ext.trans e0q ed
      refine (l6Move_any (w0 := wd) (w := wd) (hm'.ext (e := e0d)) hM'.out (ha'.ext (e := e0d)) (hi1.ext (e := Ext.trans eq ed)) hap hcp.out (by rw [hak.out, hcl.out]) (by rw [hak.out]; exact hk)).mono ?_
      rintro e w6 ⟨rfl, e6⟩
      have e6q : Ext wq w6 := Ext.trans ed e6
      have hS6 := hSx.out w6 e6q
      have own6 := ownd.ext (w' := w6)
      have hB6 : B ≤ w6.heap.size := Nat.le_trans hBq e6q.size
      generalize mvC M a c = y at *
      go_wp2_with fail
      refine hK.out _ _ hS6 (fun _ => ?_)
      clear hK K
      try simp only [List.getElem_toArray, List.getElem_cons_succ, List.getElem_cons_zero, Act.put, List.setIfInBounds_toArray, List.set_cons_zero, List.set_cons_succ]
      refine wpAnyH_ready (rs := [8]) (by kernel_rfl) (by simp) ?_
      refine AllReadyH.cons rfl (fun K hK => ?_) AllReadyH.nil
      go_simp
      have oL := own6.lit 3 1 1 #[.int .i64 y] hB6 (by unfold maxLen; omega) rfl
      have e7q : Ext wq (w6.alloc (.cells #[.int .i64 y] 3)) := Ext.trans e6q inferInstance
      have hS7 := hSx.out _ e7q
      refine hK.out _ _ hS7 (fun _ => ?_)
      clear hK K
      try simp only [List.getElem_toArray, List.getElem_cons_succ, List.getElem_cons_zero, Act.put, List.setIfInBounds_toArray, List.set_cons_zero, List.set_cons_succ]
      generalize w6.alloc (.cells #[.int .i64 y] 3) = w7 at *
      generalize w6.heap.size = gl at *
      have o7 := oL.perm (List.Perm.swap _ _ _)
      have hB7 : B ≤ w7.heap.size := Nat.le_trans hBq e7q.size
      refine wpAnyH_ready (rs := [9]) (by kernel_rfl) (by simp) ?_
      refine AllReadyH.cons rfl (fun K hK => ?_) AllReadyH.nil
      have c7 : w7.cell? ⟨gl, 0, none⟩ = some (.int .i64 y) := by
        have h := o7.tail.head.cellAt 0 (show 0 < 1 * 1 by omega)
        simpa using h
      refine stp_one rfl (.tmp 22) (.tmp 30) 27 rfl elemInt rfl o7 hB7 (us := [.int .i64 y]) rfl rfl ?_ (by intro u hu; simp at hu; subst hu; rfl) (by omega) (by omega) ?_
      · intro jj u hj
        match jj, hj with
        | 0, hj => simp at hj; subst hj; exact c7
      intro v8 w8 ho8 hb8
      have own8 := (own_grow1 ho8 hn0.out).sub (List.Sublist.cons_cons _ (List.nil_sublist _))
      have b8 : Below B wP w8 := (hb.trans (e7q.below.mono hBq)).trans hb8
      have hS8 := hSb.out _ b8
      refine hK.out _ _ hS8 (fun _ => ?_)
      clear hK K
      try simp only [List.getElem_toArray, List.getElem_cons_succ, List.getElem_cons_zero, Act.put, List.setIfInBounds_toArray, List.set_cons_zero, List.set_cons_succ]
      refine wpAnyH_take (i := 10) (v := v8) rfl (by kernel_rfl) (by kernel_rfl) (by kernel_rfl) (fun _ _ _ h => h) (Or.inl ⟨by rfl, by intro wx hx; go_simp⟩) (by assumption) ?_
      try simp only [List.getElem_toArray, List.getElem_cons_succ, List.getElem_cons_zero, Act.put, List.setIfInBounds_toArray, List.set_cons_zero, List.set_cons_succ]
      refine wpAnyH_done (by kernel_rfl) ?_ _
      go_wp2_with fail
      go_roundw
      case rel => exact ⟨j + 1, by omega, by go_num, by rw [hXj.out]; exact own8, b8⟩
      case measure => simp [intOf]; omega
    · have hjP : j = P.length := by omega
      have hfin := hid (show Own wq B [intRowOf 3 (.slice d0 n0 m0) Xs] by
        have e : Xs.take j = Xs := by rw [hjP, ← hXl.out, List.take_length]
        rw [e] at hown
        exact hown)
      replace hjP := hid hjP
      go_wp2_with fail
      go_ret
      exact ⟨_, rfl, by rw [wst, ← hPd.out, ← hXs.out]; exact hfin.out.mono hBw.out, Ext.trans ePw eq⟩
set_option maxHeartbeats 3200000 in
set_option maxRecDepth 100000 in
theorem l7Run_any {v va vX : Value} {M : List (List Int)} {a X : List Int} {w0 w : World} [Ext w0 w] (hm : IsMet w0 v M) (hM : metB M = true) (ha : IsInts w0 va a) (hXi : IsInts w0 vX X) (h1k : 1 ≤ a.length) (hk : a.length ≤ 3) (hac : a ∈ confs M.length a.length 0) (hl : X.length ≤ 1000) (hX : ∀ j, j < X.length → 0 ≤ nth X j ∧ nth X j < (M.length : Int)) :
    Calls Tryz.prog 113 #[v, va, vX] w fun e w' => ∃ u, e = .returned (.tuple #[u, .int .i64 (rnS M (confs M.length a.length 0) a X X.length)]) ∧ IsRows w' u (rnT M (confs M.length a.length 0) a X X.length) ∧ Ext w w' := by
  have hm' := hm
  obtain ⟨v1, rfl, hR⟩ := hm
  obtain ⟨a1, c1, rfl, l1⟩ := hR.form
  have ha' := ha
  obtain ⟨da, ma, rfl, la⟩ := ha.form
  have hX' := hXi
  obtain ⟨aX, mX, rfl, lX⟩ := hXi.form
  have hMl := met_len hM
  have hdst := hid (dst_of_met hM)
  have hM' := hid hM
  clear hM
  have hwl := hid (wl_good hdst.out h1k hk hac hX hl)
  have hrn := hid (rn_conf hdst.out h1k hk hac hX hl)
  have hrt := hid (fun (i : Nat) (hi : i ≤ X.length) => rnT_mem hdst.out h1k hk hac hX hl hi)
  have hcl := hid (show ∀ c, c ∈ confs M.length a.length 0 → c.length = a.length ∧ ∀ x ∈ c, I64 x from fun c hc => by
    obtain ⟨h1, _, h3⟩ := confs_iff.1 hc
    exact ⟨h1, fun x hx => by have := h3 x hx; unfold I64; omega⟩)
  have hac' := hid hac
  clear hac
  replace hX := hid hX
  have h216 := confs_216 hMl.2 hk
  have hwll := hid (show ∀ i, i ≤ X.length → (wlAt M (confs M.length a.length 0) a X i).length ≤ 216 ∧ ∀ x ∈ wlAt M (confs M.length a.length 0) a X i, I64 x from fun i hi => by
    have h := hwl.out i hi
    exact ⟨by rw [h.1.1]; exact h216, good_i64 h (by omega)⟩)
  obtain ⟨w1, hw1⟩ : ∃ x, x = w.alloc (.cells #[.slice a1 M.length c1] 26) := ⟨_, rfl⟩
  have e1 : Ext w w1 := by rw [hw1]; infer_instance
  have x0 : w1.cell? ⟨w.heap.size, 0, none⟩ = some (.slice a1 M.length c1) := by rw [hw1]; go_simp
  have hz1 := hid (show w1.heap.size = w.heap.size + 1 by rw [hw1]; simp)
  obtain ⟨B, hB⟩ : ∃ b, b = w1.heap.size := ⟨_, rfl⟩
  have hEx := hid (show ∀ u, Below B w1 u → Ext w1 u from fun u h => ⟨by rw [← hB]; exact h⟩)
  have hBl := hid (show ∀ u, Ext w1 u → B ≤ u.heap.size from fun u e => by rw [hB]; exact e.size)
  have e01 : Ext w0 w1 := Ext.trans ‹Ext w0 w› e1
  have own0 : Own (w1.alloc (.cells #[] 27)) B [valRowOf 27 (.slice (some ⟨w1.heap.size, 0, none⟩) ([] : List Value).length 0) []] := by
    rw [hB]
    exact (Own.nil w1 w1.heap.size).lit 27 1 0 #[] (Nat.le_refl _) (by unfold maxLen; omega) rfl
  have b0 : Below B w1 (w1.alloc (.cells #[] 27)) := by rw [hB]; exact (Below.refl _ _).alloc (Nat.le_refl _) _
  replace hB := hid hB
  go_enter Tryz.func113, Tryz.ntmps113
  go_upto_region 1 with fail
  rw [← hw1]
  obtain ⟨bx, hbx⟩ : ∃ q, q = w.heap.size := ⟨_, rfl⟩
  rw [← hbx] at x0 hz1 ⊢
  replace hbx := hid hbx
  replace hw1 := hid hw1
  have x1 := (inferInstance : Ext w1 (w1.alloc (.cells #[] 27))).cell x0
  have e02 : Ext w0 (w1.alloc (.cells #[] 27)) := Ext.trans e01 inferInstance
  go_wp2_with fail
  refine (l7Start_any (w0 := w0) hm' hM'.out ha' hk hac'.out).mono ?_
  rintro e w2 ⟨u2, rfl, ownW, e2⟩
  have own2 := Own.join own0 ownW (hB := (hBl.out _ (inferInstance : Ext w1 (w1.alloc (.cells #[] 27)))))
  have b2 : Below B w1 w2 := ext_below b0 (hBl.out _ (inferInstance : Ext w1 (w1.alloc (.cells #[] 27))))
  clear ownW own0 b0
  have own2' : Own w2 B (valRowOf 27 (.slice (some ⟨w1.heap.size, 0, none⟩) ([] : List Value).length 0) [] :: (List.zipWith (intRowOf 3) [] (rnT M (confs M.length a.length 0) a X 0) ++ [intRowOf 3 u2 (wlAt M (confs M.length a.length 0) a X 0)])) := own2.perm (List.Perm.swap _ _ _)
  clear own2 x1 e02 e2
  obtain ⟨P, hPd⟩ : ∃ p, p = confs M.length a.length 0 := ⟨_, rfl⟩
  rw [← hPd] at own2' hwl hrn hrt hcl hac' h216 hwll
  replace hPd := hid hPd
  go_wp2_with fail
  go_loopw [1, 8, 9, 10, 11] (fun av ov wv sv i wr => ∃ (q : Nat) (vs : List Value), q ≤ X.length ∧ i = .int .i64 q ∧ sv = .int .i64 (rnS M P a X q) ∧ Hid (vs.length = q) ∧ Hid ((q = 0 ∧ av = .slice da a.length ma) ∨ (1 ≤ q ∧ av = vs.getD (q - 1) undef)) ∧ Own wr B (valRowOf 27 ov vs :: (List.zipWith (intRowOf 3) vs (rnT M P a X q) ++ [intRowOf 3 wv (wlAt M P a X q)])) ∧ Below B w1 wr) (fun _ _ _ _ i _ => X.length - (intOf i).toNat)
  case atStart => exact ⟨0, [], by omega, rfl, rfl, rfl, .inl ⟨rfl, rfl⟩, own2', b2⟩
  case round =>
    clear own2' b2
    obtain ⟨i, vs, hi, rfl, rfl, hvl, hav, hown, hb⟩ := hrel
    obtain ⟨wq, rfl⟩ : ∃ y : World, y = wr := ⟨_, rfl⟩
    have eq : Ext w1 wq := hEx.out _ hb
    have e0q : Ext w0 wq := Ext.trans e01 eq
    have hBq := hBl.out _ eq
    have hvl2 := hid (show vs.length = (rnT M P a X i).length by rw [hvl.out, rnT_len])
    obtain ⟨dO, mO, hO⟩ := hown.form
    replace hO : u8 = Value.slice dO vs.length mO := hO
    by_cases hlt : i < X.length
    · have hAi := hrn.out i hi
      have hA : IsInts wq u1 (rnA M P a X i) := by
        rcases hav.out with ⟨h0, h1⟩ | ⟨h0, h1⟩
        · rw [h1, h0]; exact ha'.ext
        · have hr : row (rnT M P a X i) (i - 1) = rnA M P a X i := by
            have : i - 1 < i := by omega
            simp [rnT, row, this, show i - 1 + 1 = i by omega]
          have h2 := hcl.out _ hAi.1
          have h3 := own_at hown hvl2.out (j := i - 1) (by rw [rnT_len]; omega) (by rw [hr]; unfold Short; omega) (by rw [hr]; exact h2.2)
          rw [h1]
          rw [hr] at h3
          exact h3
      clear hav
      have hAl := hcl.out _ hAi.1
      have hWl := hwll.out i hi
      have hown2 := hown.perm (S := intRowOf 3 u9 (wlAt M P a X i) :: (valRowOf 27 u8 vs :: List.zipWith (intRowOf 3) vs (rnT M P a X i))) (by
        have := List.perm_middle (a := intRowOf 3 u9 (wlAt M P a X i)) (l₁ := valRowOf 27 u8 vs :: List.zipWith (intRowOf 3) vs (rnT M P a X i)) (l₂ := [])
        rw [List.append_nil] at this
        exact this.symm)
      have hW := hown2.reads (by unfold Short; omega) hWl.2
      clear hown2
      subst hO
      obtain ⟨dA, mA, hAv, lA⟩ := hA.form
      subst hAv
      obtain ⟨dW, mW, hWv, lW⟩ := hW.form
      subst hWv
      obtain ⟨bX, oX, hdX, hcX⟩ := hX'.at (w' := wq) hlt
      cases hdX
      have x0q := eq.cell x0
      have hri := hid (hX.out i hlt)
      have hgW := hid (show GoodW M (confs M.length (rnA M P a X i).length 0) (wlAt M P a X i) 300000 by
        rw [hAl.1, ← hPd.out]
        exact (hwl.out i hi).mono (by omega))
      have hgN := hid (show GoodW M (confs M.length a.length 0) (wlAt M P a X (i + 1)) 300000 by
        rw [← hPd.out]
        exact (hwl.out (i + 1) hlt).mono (by omega))
      have hnw := hid (show wnxL M (confs M.length (rnA M P a X i).length 0) (wlAt M P a X i) (nth X i) = wlAt M P a X (i + 1) by rw [hAl.1, ← hPd.out]; rfl)
      have hAc := hid (show rnA M P a X i ∈ confs M.length a.length 0 by rw [← hPd.out]; exact hAi.1)
      have hsc := hid (show svC M (confs M.length a.length 0) (wlAt M P a X (i + 1)) (rnA M P a X i) (nth X i) = rnA M P a X (i + 1) by rw [← hPd.out]; rfl)
      have hsk := hid (show svK M (confs M.length a.length 0) (wlAt M P a X (i + 1)) (rnA M P a X i) (nth X i) = rnS M P a X (i + 1) - rnS M P a X i by rw [← hPd.out, rnS]; omega)
      have hs2 := (hrn.out (i + 1) hlt).2
      have hTs := hid (show rnT M P a X (i + 1) = rnT M P a X i ++ [rnA M P a X (i + 1)] from rnT_succ)
      have hNl := hwll.out (i + 1) hlt
      have hA2 := hcl.out _ (hrn.out (i + 1) hlt).1
      obtain ⟨A, hAd⟩ : ∃ y, y = rnA M P a X i := ⟨_, rfl⟩
      rw [← hAd] at hA hAi hAl hgW hnw hAc hsc hsk ⊢
      obtain ⟨W, hWd⟩ : ∃ y, y = wlAt M P a X i := ⟨_, rfl⟩
      rw [← hWd] at hW hWl hgW hnw hown ⊢
      obtain ⟨NW, hNW⟩ : ∃ y, y = wlAt M P a X (i + 1) := ⟨_, rfl⟩
      rw [← hNW] at hgN hnw hsc hsk hNl
      obtain ⟨A2, hA2d⟩ : ∃ y, y = rnA M P a X (i + 1) := ⟨_, rfl⟩
      rw [← hA2d] at hsc hTs hA2
      obtain ⟨r, hrd⟩ : ∃ y, y = nth X i := ⟨_, rfl⟩
      rw [← hrd] at hri hnw hsc hsk hcX
      obtain ⟨L, hL⟩ : ∃ y, y = rnT M P a X i := ⟨_, rfl⟩
      rw [← hL] at hown hTs hvl2
      obtain ⟨s1, hs1⟩ : ∃ y, y = rnS M P a X i := ⟨_, rfl⟩
      rw [← hs1] at hsk hAi ⊢
      obtain ⟨ck, hck⟩ : ∃ y, y = rnS M P a X (i + 1) - s1 := ⟨_, rfl⟩
      rw [← hck] at hsk
      have hck2 := hid (show s1 + ck = rnS M P a X (i + 1) by omega)
      have hsb : 0 ≤ s1 + ck ∧ s1 + ck ≤ 1000000 := by omega
      have hAk := hid hAl.1
      have hA2l := hA2.1
      have hA2i := hid hA2.2
      have hA3 : A.length ≤ 3 := by omega
      have hA1 : 1 ≤ A.length := by omega
      have hA23 : A2.length ≤ 3 := by omega
      have hs99 : 0 ≤ s1 ∧ s1 ≤ 100000 := by omega
      clear hAl hA2 hA2l hs2
      replace hAd := hid hAd
      replace hWd := hid hWd
      replace hNW := hid hNW
      replace hA2d := hid hA2d
      replace hrd := hid hrd
      replace hL := hid hL
      replace hs1 := hid hs1
      replace hck := hid hck
      replace hAi := hid hAi
      replace hWl := hid hWl
      have hNl1 := hNl.1
      have hNl2 := hid hNl.2
      clear hNl
      have hSx := hid (show ∀ u, Ext wq u → u.cell? ⟨bx, 0, none⟩ = some (.slice a1 M.length c1) ∧ u.cell? ⟨bX, oX + i, none⟩ = some (.int .i64 r) from fun u e => ⟨e.cell x0q, e.cell hcX⟩)
      clear x0q hcX
      go_wp2_with fail
      refine region_held_from (w0 := wq) (S := fun u => u.cell? ⟨bx, 0, none⟩ = some (.slice a1 M.length c1) ∧ u.cell? ⟨bX, oX + i, none⟩ = some (.int .i64 r)) (by kernel_rfl) hSx.out (fun wd ed hHeld0 => ?_)
      have e0d : Ext w0 wd := Ext.trans e0q ed
      refine wpAnyH_take (i := 0) (v := .agg #[.slice a1 M.length c1]) rfl (by kernel_rfl) (by kernel_rfl) (by kernel_rfl) (fun _ _ _ h => h) (Or.inl ⟨by rfl, by intro wx hx; obtain ⟨_, _⟩ := hx; go_simp⟩) (by assumption) ?_
      try simp only [List.getElem_toArray, List.getElem_cons_zero, Act.put, List.setIfInBounds_toArray, List.set_cons_zero, List.set_cons_succ]
      refine wpAnyH_take (i := 1) (v := .slice dA A.length mA) rfl (by kernel_rfl) (by kernel_rfl) (by kernel_rfl) (fun _ _ _ h => h) (Or.inl ⟨by rfl, by intro wx hx; go_simp⟩) (by assumption) ?_
      try simp only [List.getElem_toArray, List.getElem_cons_succ, List.getElem_cons_zero, Act.put, List.setIfInBounds_toArray, List.set_cons_zero, List.set_cons_succ]
      refine wpAnyH_take (i := 2) (v := .int .i64 A.length) rfl (by kernel_rfl) (by kernel_rfl) (by kernel_rfl) (fun _ _ _ h => h) (Or.inl ⟨by rfl, by intro wx hx; go_simp⟩) (by assumption) ?_
      try simp only [List.getElem_toArray, List.getElem_cons_succ, List.getElem_cons_zero, Act.put, List.setIfInBounds_toArray, List.set_cons_zero, List.set_cons_succ]
      refine wpAnyH_take (i := 3) (v := .slice dW W.length mW) rfl (by kernel_rfl) (by kernel_rfl) (by kernel_rfl) (fun _ _ _ h => h) (Or.inl ⟨by rfl, by intro wx hx; go_simp⟩) (by assumption) ?_
      try simp only [List.getElem_toArray, List.getElem_cons_succ, List.getElem_cons_zero, Act.put, List.setIfInBounds_toArray, List.set_cons_zero, List.set_cons_succ]
      refine wpAnyH_take (i := 4) (v := .slice (some ⟨bX, oX, none⟩) X.length mX) rfl (by kernel_rfl) (by kernel_rfl) (by kernel_rfl) (fun _ _ _ h => h) (Or.inl ⟨by rfl, by intro wx hx; go_simp⟩) (by assumption) ?_
      try simp only [List.getElem_toArray, List.getElem_cons_succ, List.getElem_cons_zero, Act.put, List.setIfInBounds_toArray, List.set_cons_zero, List.set_cons_succ]
      refine wpAnyH_take (i := 5) (v := .int .i64 i) rfl (by kernel_rfl) (by kernel_rfl) (by kernel_rfl) (fun _ _ _ h => h) (Or.inl ⟨by rfl, by intro wx hx; go_simp⟩) (by assumption) ?_
      try simp only [List.getElem_toArray, List.getElem_cons_succ, List.getElem_cons_zero, Act.put, List.setIfInBounds_toArray, List.set_cons_zero, List.set_cons_succ]
      refine wpAnyH_take (i := 6) (v := .pointer (some ⟨bX, oX + i, none⟩)) rfl (by kernel_rfl) (by kernel_rfl) (by kernel_rfl) (fun _ _ _ h => h) (Or.inl ⟨by rfl, by intro wx hx; go_simp⟩) (by assumption) ?_
      try simp only [List.getElem_toArray, List.getElem_cons_succ, List.getElem_cons_zero, Act.put, List.setIfInBounds_toArray, List.set_cons_zero, List.set_cons_succ]
      refine wpAnyH_take (i := 7) (v := .int .i64 r) rfl (by kernel_rfl) (by kernel_rfl) (by kernel_rfl) (fun _ _ _ h => h) (Or.inl ⟨by rfl, by intro wx hx; obtain ⟨_, _⟩ := hx; go_simp⟩) (by assumption) ?_
      try simp only [List.getElem_toArray, List.getElem_cons_succ, List.getElem_cons_zero, Act.put, List.setIfInBounds_toArray, List.set_cons_zero, List.set_cons_succ]
      refine wpAnyH_ready (rs := [8]) (by kernel_rfl) (by simp) ?_
      refine AllReadyH.cons rfl (fun K hK => ?_) AllReadyH.nil
      go_simp
      go_at_call 73
      refine (l7NextO_any (w0 := wd) (w := wd) (hm'.ext (e := e0d)) hM'.out (hW.ext (e := ed)) hA1 hA3 hgW.out (by omega) hri.out).mono ?_
      rw [hnw.out]
      rintro e w5 ⟨u5, rfl, ownN, e5⟩
      have hBd : B ≤ wd.heap.size := Nat.le_trans hBq ed.size
      have own5 := Own.join (hown.ext (w' := wd)) ownN (hB := hBd)
      have hN : IsInts w5 u5 NW := ownN.reads (by unfold Short; omega) hNl2.out
      clear ownN
      obtain ⟨dN, mN, rfl, lN⟩ := hN.form
      have e5q : Ext wq w5 := Ext.trans ed e5
      have hS5 := hSx.out w5 e5q
      go_wp2_with fail
      refine hK.out _ _ hS5 (fun _ => ?_)
      clear hK K
      try simp only [List.getElem_toArray, List.getElem_cons_succ, List.getElem_cons_zero, Act.put, List.setIfInBounds_toArray, List.set_cons_zero, List.set_cons_succ]
      refine wpAnyH_take (i := 9) (v := .slice dN NW.length mN) rfl (by kernel_rfl) (by kernel_rfl) (by kernel_rfl) (fun _ _ _ h => h) (Or.inl ⟨by rfl, by intro wx hx; go_simp⟩) (by assumption) ?_
      try simp only [List.getElem_toArray, List.getElem_cons_succ, List.getElem_cons_zero, Act.put, List.setIfInBounds_toArray, List.set_cons_zero, List.set_cons_succ]
      refine wpAnyH_done (by kernel_rfl) ?_ _
      go_wp2_with fail
      refine region_held_from (w0 := w5) (S := fun u => u.cell? ⟨bx, 0, none⟩ = some (.slice a1 M.length c1) ∧ u.cell? ⟨bX, oX + i, none⟩ = some (.int .i64 r)) (by kernel_rfl) (fun u e => hSx.out u (Ext.trans e5q e)) (fun we ee hHeld0 => ?_)
      have e0e : Ext w0 we := Ext.trans e0d (Ext.trans e5 ee)
      have e5e : Ext wq we := Ext.trans e5q ee
      refine wpAnyH_take (i := 0) (v := .agg #[.slice a1 M.length c1]) rfl (by kernel_rfl) (by kernel_rfl) (by kernel_rfl) (fun _ _ _ h => h) (Or.inl ⟨by rfl, by intro wx hx; obtain ⟨_, _⟩ := hx; go_simp⟩) (by assumption) ?_
      try simp only [List.getElem_toArray, List.getElem_cons_zero, Act.put, List.setIfInBounds_toArray, List.set_cons_zero, List.set_cons_succ]
      refine wpAnyH_take (i := 1) (v := .slice dN NW.length mN) rfl (by kernel_rfl) (by kernel_rfl) (by kernel_rfl) (fun _ _ _ h => h) (Or.inl ⟨by rfl, by intro wx hx; go_simp⟩) (by assumption) ?_
      try simp only [List.getElem_toArray, List.getElem_cons_succ, List.getElem_cons_zero, Act.put, List.setIfInBounds_toArray, List.set_cons_zero, List.set_cons_succ]
      refine wpAnyH_take (i := 2) (v := .slice dA A.length mA) rfl (by kernel_rfl) (by kernel_rfl) (by kernel_rfl) (fun _ _ _ h => h) (Or.inl ⟨by rfl, by intro wx hx; go_simp⟩) (by assumption) ?_
      try simp only [List.getElem_toArray, List.getElem_cons_succ, List.getElem_cons_zero, Act.put, List.setIfInBounds_toArray, List.set_cons_zero, List.set_cons_succ]
      refine wpAnyH_take (i := 3) (v := .slice (some ⟨bX, oX, none⟩) X.length mX) rfl (by kernel_rfl) (by kernel_rfl) (by kernel_rfl) (fun _ _ _ h => h) (Or.inl ⟨by rfl, by intro wx hx; go_simp⟩) (by assumption) ?_
      try simp only [List.getElem_toArray, List.getElem_cons_succ, List.getElem_cons_zero, Act.put, List.setIfInBounds_toArray, List.set_cons_zero, List.set_cons_succ]
      refine wpAnyH_take (i := 4) (v := .int .i64 i) rfl (by kernel_rfl) (by kernel_rfl) (by kernel_rfl) (fun _ _ _ h => h) (Or.inl ⟨by rfl, by intro wx hx; go_simp⟩) (by assumption) ?_
      try simp only [List.getElem_toArray, List.getElem_cons_succ, List.getElem_cons_zero, Act.put, List.setIfInBounds_toArray, List.set_cons_zero, List.set_cons_succ]
      refine wpAnyH_take (i := 5) (v := .pointer (some ⟨bX, oX + i, none⟩)) rfl (by kernel_rfl) (by kernel_rfl) (by kernel_rfl) (fun _ _ _ h => h) (Or.inl ⟨by rfl, by intro wx hx; go_simp⟩) (by assumption) ?_
      try simp only [List.getElem_toArray, List.getElem_cons_succ, List.getElem_cons_zero, Act.put, List.setIfInBounds_toArray, List.set_cons_zero, List.set_cons_succ]
      refine wpAnyH_take (i := 6) (v := .int .i64 r) rfl (by kernel_rfl) (by kernel_rfl) (by kernel_rfl) (fun _ _ _ h => h) (Or.inl ⟨by rfl, by intro wx hx; obtain ⟨_, _⟩ := hx; go_simp⟩) (by assumption) ?_
      try simp only [List.getElem_toArray, List.getElem_cons_succ, List.getElem_cons_zero, Act.put, List.setIfInBounds_toArray, List.set_cons_zero, List.set_cons_succ]
      refine wpAnyH_ready (rs := [7]) (by kernel_rfl) (by simp) ?_
      refine AllReadyH.cons rfl (fun K hK => ?_) AllReadyH.nil
      go_simp
      go_at_call 96
      refine (l7ServeO_any (w0 := we) (w := we) (hm'.ext (e := e0e)) hM'.out (hN.ext (e := ee)) (hA.ext (e := e5e)) h1k hk hAc.out hgN.out (by omega) hri.out).mono ?_
      rw [hsc.out, hsk.out]
      rintro e w6 ⟨u6, rfl, ownU, e6⟩
      obtain ⟨dU, mU, hu6⟩ := ownU.form
      replace hu6 : u6 = .slice dU A2.length mU := hu6
      subst hu6
      have hBe : B ≤ we.heap.size := Nat.le_trans hBq e5e.size
      have own6 := Own.join (own5.ext (w' := we)) ownU (hB := hBe)
      have ownT : Own w6 B (⟨27, 1, .slice dO vs.length mO, vs.length, vs⟩ :: (intRowOf 3 (.slice dU A2.length mU) A2 :: (List.zipWith (intRowOf 3) vs L ++ [intRowOf 3 (.slice dN NW.length mN) NW]))) := (own6.perm (perm_c _ _ _ _ _)).sub (List.Sublist.cons_cons _ (List.Sublist.cons_cons _ (List.Sublist.append (List.Sublist.refl _) (List.Sublist.cons_cons _ (List.nil_sublist _)))))
      clear own5 own6 ownU
      have b6 : Below B w1 w6 := (hb.trans (e5e.below.mono hBq)).trans (e6.below.mono hBe)
      have hB6 : B ≤ w6.heap.size := Nat.le_trans hBe e6.size
      have e6q : Ext wq w6 := Ext.trans e5e e6
      have hS6 := hSx.out w6 e6q
      go_wp2_with fail
      refine hK.out _ _ hS6 (fun _ => ?_)
      clear hK K
      try simp only [List.getElem_toArray, List.getElem_cons_succ, List.getElem_cons_zero, Act.put, List.setIfInBounds_toArray, List.set_cons_zero, List.set_cons_succ]
      refine wpAnyH_take (i := 8) (v := .tuple #[.slice dU A2.length mU, .int .i64 ck]) rfl (by kernel_rfl) (by kernel_rfl) (by kernel_rfl) (fun _ _ _ h => h) (Or.inl ⟨by rfl, by intro wx hx; go_simp⟩) (by assumption) ?_
      try simp only [List.getElem_toArray, List.getElem_cons_succ, List.getElem_cons_zero, Act.put, List.setIfInBounds_toArray, List.set_cons_zero, List.set_cons_succ]
      refine wpAnyH_take (i := 9) (v := .slice dU A2.length mU) rfl (by kernel_rfl) (by kernel_rfl) (by kernel_rfl) (fun _ _ _ h => h) (Or.inl ⟨by rfl, by intro wx hx; go_simp⟩) (by assumption) ?_
      try simp only [List.getElem_toArray, List.getElem_cons_succ, List.getElem_cons_zero, Act.put, List.setIfInBounds_toArray, List.set_cons_zero, List.set_cons_succ]
      refine wpAnyH_take (i := 10) (v := .int .i64 ck) rfl (by kernel_rfl) (by kernel_rfl) (by kernel_rfl) (fun _ _ _ h => h) (Or.inl ⟨by rfl, by intro wx hx; go_simp⟩) (by assumption) ?_
      try simp only [List.getElem_toArray, List.getElem_cons_succ, List.getElem_cons_zero, Act.put, List.setIfInBounds_toArray, List.set_cons_zero, List.set_cons_succ]
      refine wpAnyH_take (i := 11) (v := .slice dU A2.length mU) rfl (by kernel_rfl) (by kernel_rfl) (by kernel_rfl) (fun _ _ _ h => h) (Or.inl ⟨by rfl, by intro wx hx; go_simp⟩) (by assumption) ?_
      try simp only [List.getElem_toArray, List.getElem_cons_succ, List.getElem_cons_zero, Act.put, List.setIfInBounds_toArray, List.set_cons_zero, List.set_cons_succ]
      refine wpAnyH_take (i := 12) (v := .int .i64 ck) rfl (by kernel_rfl) (by kernel_rfl) (by kernel_rfl) (fun _ _ _ h => h) (Or.inl ⟨by rfl, by intro wx hx; go_simp⟩) (by assumption) ?_
      try simp only [List.getElem_toArray, List.getElem_cons_succ, List.getElem_cons_zero, Act.put, List.setIfInBounds_toArray, List.set_cons_zero, List.set_cons_succ]
      refine wpAnyH_done (by kernel_rfl) ?_ _
      have hvs2 : vs.length ≤ 1000 := by rw [hvl.out]; omega
      go_wp2_with (at_builtin; refine wpList_append1 rfl _ _ _ rfl elemInts rfl ownT hB6 rfl rfl (by omega) (by omega) ?_; intro v7 w7 ho hb7)
      have own7 := rows_in0 ho hvl2.out
      rw [← hTs.out] at own7
      go_roundw
      case rel =>
        refine ⟨i + 1, vs ++ [.slice dU A2.length mU], by omega, by go_num, by rw [hck2.out], ?_, ?_, by rw [← hNW.out]; exact own7, (b6.trans hb7)⟩
        · show (vs ++ [_]).length = i + 1
          rw [List.length_append, hvl.out]; rfl
        · refine .inr ⟨by omega, ?_⟩
          have : i = vs.length := hvl.out.symm
          simp [this]
      case measure => simp [intOf]; omega
    · have hin : i = X.length := by omega
      subst hO
      have hfin := hid (show IsRows wq (.slice dO vs.length mO) (rnT M P a X X.length) by
        rw [← hin]
        refine Own.readsAll (e1 := 27) (e2 := 3) (vs := vs) (R := [intRowOf 3 u9 (wlAt M P a X i)]) hown hvl2.out (by unfold ShortRows; rw [rnT_len]; omega) (fun r hr => ?_) (fun r hr => ?_)
        · have := (hcl.out r (hrt.out i hi r hr)).1
          unfold Short; omega
        · exact (hcl.out r (hrt.out i hi r hr)).2)
      have hsf := hid (show rnS M P a X i = rnS M (confs M.length a.length 0) a X X.length by rw [hin, hPd.out])
      rw [hsf.out]
      replace hin := hid hin
      go_wp2_with fail
      go_ret2
      exact ⟨_, rfl, by rw [← hPd.out]; exact hfin.out, Ext.trans e1 eq⟩
end Go.Proofs.YtmgcfnciejfpbaaGreat
namespace Go.Proofs.YtmgcfnciejfpbaaGreat
open Go.RowKit

theorem Tab.side {w w' : World} {B : Nat} {v : Value} {M : List (List Int)} {R S : List Row} (h : Tab w B v M R) (hn : Own w' w.heap.size S) (e : Ext w w') (hB : B ≤ w.heap.size) : Tab w' B v M S := by
  obtain ⟨vs, h1, h2⟩ := h
  have h3 := Own.join h2 hn (hB := hB)
  exact ⟨vs, h1, h3.swap.sub (List.Sublist.append (List.sublist_append_left _ _) (List.Sublist.refl _))⟩
set_option maxHeartbeats 1600000 in
set_option maxRecDepth 100000 in
theorem lists_any {v va vX : Value} {M : List (List Int)} {a X : List Int} {w0 w : World} [Ext w0 w] (hW : IsWorks w0 v M (confs M.length a.length 0)) (hM : metB M = true) (ha : IsInts w0 va a) (hXi : IsInts w0 vX X) (h1k : 1 ≤ a.length) (hk : a.length ≤ 3) (hac : a ∈ confs M.length a.length 0) (hl : X.length ≤ 1000) (hX : ∀ j, j < X.length → 0 ≤ nth X j ∧ nth X j < (M.length : Int)) :
    Calls Tryz.prog 87 #[v, va, vX] w fun e w' => ∃ u, e = .returned u ∧ Tab w' w.heap.size u (wlL M (confs M.length a.length 0) a X X.length) [] ∧ Ext w w' := by
  have hW' := hW
  obtain ⟨bx, mv, pv, cv, rfl, h0, h1, h2, hR, hP, hCs⟩ := hW
  have ha' := ha
  obtain ⟨da, ma, rfl, la⟩ := ha.form
  have hX' := hXi
  obtain ⟨aX, mX, rfl, lX⟩ := hXi.form
  have hMl := met_len hM
  have hdst := hid (dst_of_met hM)
  have hwl := hid (wl_good hdst.out h1k hk hac hX hl)
  have h216 := confs_216 hMl.2 hk
  have hcp := confs_pos (k := a.length) hMl.1
  have hmv := hid (confs_mv hdst.out hk)
  have hasc := hid (confs_asc M.length a.length 0)
  obtain ⟨htl, htr⟩ := atR_lt hac
  have hac' := hid hac
  clear hac h0 h1 hR hP
  replace hM := hid hM
  replace hX := hid hX
  obtain ⟨P, hPd⟩ : ∃ p, p = confs M.length a.length 0 := ⟨_, rfl⟩
  rw [← hPd] at htl htr hac' hasc hmv hcp h216 hwl hW' hCs ⊢
  replace hPd := hid hPd
  obtain ⟨t, ht⟩ : ∃ t, t = atR P a := ⟨_, rfl⟩
  rw [← ht] at htl htr
  have hat := hid ht.symm
  replace ht := hid ht
  have hcl : (cosL M P).length = P.length := by simp [cosL]
  have hrow := hid (show row (cosL M P) t = wst M P a by
    rw [wst, ← htr]
    simp [row, cosL, htl])
  obtain ⟨aC, mC, rfl, lC⟩ := hCs.form
  obtain ⟨bC, oC, dr, mr, hdC, hcr, hrI, _⟩ := hCs.at (w' := w0) (k := t) (by rw [hcl]; exact htl)
  cases hdC
  rw [hcl] at h2
  clear hCs hcl lC
  rw [hrow.out] at hcr hrI
  have hw0 := hid (show wlL M P a X 0 = [wst M P a] from rfl)
  obtain ⟨S0, hS0⟩ : ∃ x, x = wst M P a := ⟨_, rfl⟩
  rw [← hS0] at hcr hrI hw0
  replace hS0 := hid hS0
  obtain ⟨B, hB⟩ : ∃ b, b = w.heap.size := ⟨_, rfl⟩
  have hEx := hid (show ∀ u, Below B w u → Ext w u from fun u h => ⟨by rw [← hB]; exact h⟩)
  have hBl := hid (show ∀ u, Ext w u → B ≤ u.heap.size from fun u e => by rw [hB]; exact e.size)
  have hXb := hid (show ∀ u, Ext w u → Below B w u from fun u e => by rw [hB]; exact e.below)
  rw [← hB]
  replace hB := hid hB
  go_enter Tryz.func87, Tryz.ntmps87
  go_wp2_with fail
  have hSx := hid (show ∀ u, Ext w u → u.cell? ⟨bx, 2, none⟩ = some (.slice (some ⟨bC, oC, none⟩) P.length mC) ∧ u.cell? ⟨bC, oC + t, none⟩ = some (.slice dr S0.length mr) from fun u e => ⟨(Ext.trans ‹Ext w0 w› e).cell h2, (Ext.trans ‹Ext w0 w› e).cell hcr⟩)
  refine region_held_from (w0 := w) (S := fun u => u.cell? ⟨bx, 2, none⟩ = some (.slice (some ⟨bC, oC, none⟩) P.length mC) ∧ u.cell? ⟨bC, oC + t, none⟩ = some (.slice dr S0.length mr)) (by kernel_rfl) hSx.out (fun wd ed hHeld0 => ?_)
  have e0d : Ext w0 wd := Ext.trans ‹Ext w0 w› ed
  refine wpAnyH_take (i := 0) (v := .pointer (some ⟨bx, 0, none⟩)) rfl (by kernel_rfl) (by kernel_rfl) (by kernel_rfl) (fun _ _ _ h => h) (Or.inl ⟨by rfl, by intro wx hx; go_simp⟩) (by assumption) ?_
  try simp only [List.getElem_toArray, List.getElem_cons_zero, Act.put, List.setIfInBounds_toArray, List.set_cons_zero, List.set_cons_succ]
  refine wpAnyH_take (i := 1) (v := .pointer (some ⟨bx, 0, none⟩)) rfl (by kernel_rfl) (by kernel_rfl) (by kernel_rfl) (fun _ _ _ h => h) (Or.inl ⟨by rfl, by intro wx hx; go_simp⟩) (by assumption) ?_
  try simp only [List.getElem_toArray, List.getElem_cons_succ, List.getElem_cons_zero, Act.put, List.setIfInBounds_toArray, List.set_cons_zero, List.set_cons_succ]
  refine wpAnyH_take (i := 2) (v := .pointer (some ⟨bx, 2, none⟩)) rfl (by kernel_rfl) (by kernel_rfl) (by kernel_rfl) (fun _ _ _ h => h) (Or.inl ⟨by rfl, by intro wx hx; go_simp⟩) (by assumption) ?_
  try simp only [List.getElem_toArray, List.getElem_cons_succ, List.getElem_cons_zero, Act.put, List.setIfInBounds_toArray, List.set_cons_zero, List.set_cons_succ]
  refine wpAnyH_take (i := 3) (v := .slice (some ⟨bC, oC, none⟩) P.length mC) rfl (by kernel_rfl) (by kernel_rfl) (by kernel_rfl) (fun _ _ _ h => h) (Or.inl ⟨by rfl, by intro wx hx; obtain ⟨_, _⟩ := hx; go_simp⟩) (by assumption) ?_
  try simp only [List.getElem_toArray, List.getElem_cons_succ, List.getElem_cons_zero, Act.put, List.setIfInBounds_toArray, List.set_cons_zero, List.set_cons_succ]
  refine wpAnyH_take (i := 4) (v := .pointer (some ⟨bx, 0, none⟩)) rfl (by kernel_rfl) (by kernel_rfl) (by kernel_rfl) (fun _ _ _ h => h) (Or.inl ⟨by rfl, by intro wx hx; go_simp⟩) (by assumption) ?_
  try simp only [List.getElem_toArray, List.getElem_cons_succ, List.getElem_cons_zero, Act.put, List.setIfInBounds_toArray, List.set_cons_zero, List.set_cons_succ]
  refine wpAnyH_take (i := 5) (v := .slice da a.length ma) rfl (by kernel_rfl) (by kernel_rfl) (by kernel_rfl) (fun _ _ _ h => h) (Or.inl ⟨by rfl, by intro wx hx; go_simp⟩) (by assumption) ?_
  try simp only [List.getElem_toArray, List.getElem_cons_succ, List.getElem_cons_zero, Act.put, List.setIfInBounds_toArray, List.set_cons_zero, List.set_cons_succ]
  refine wpAnyH_ready (rs := [6]) (by kernel_rfl) (by simp) ?_
  refine AllReadyH.cons rfl (fun K hK => ?_) AllReadyH.nil
  go_simp
  go_at_call 79
  refine (index_any (w0 := w0) hW' ha' hasc.out hac'.out (by omega)).mono ?_
  rw [hat.out]
  rintro e w5 ⟨rfl, rfl⟩
  go_wp2_with fail
  refine hK.out _ _ hHeld0 (fun _ => ?_)
  clear hK K
  try simp only [List.getElem_toArray, List.getElem_cons_succ, List.getElem_cons_zero, Act.put, List.setIfInBounds_toArray, List.set_cons_zero, List.set_cons_succ]
  refine wpAnyH_take (i := 7) (v := .pointer (some ⟨bC, oC + t, none⟩)) rfl (by kernel_rfl) (by kernel_rfl) (by kernel_rfl) (fun _ _ _ h => h) (Or.inl ⟨by rfl, by intro wx hx; go_simp⟩) (by assumption) ?_
  try simp only [List.getElem_toArray, List.getElem_cons_succ, List.getElem_cons_zero, Act.put, List.setIfInBounds_toArray, List.set_cons_zero, List.set_cons_succ]
  refine wpAnyH_take (i := 8) (v := .slice dr S0.length mr) rfl (by kernel_rfl) (by kernel_rfl) (by kernel_rfl) (fun _ _ _ h => h) (Or.inl ⟨by rfl, by intro wx hx; obtain ⟨_, _⟩ := hx; go_simp⟩) (by assumption) ?_
  try simp only [List.getElem_toArray, List.getElem_cons_succ, List.getElem_cons_zero, Act.put, List.setIfInBounds_toArray, List.set_cons_zero, List.set_cons_succ]
  refine wpAnyH_ready (rs := [9]) (by kernel_rfl) (by simp) ?_
  refine AllReadyH.cons rfl (fun K hK => ?_) AllReadyH.nil
  go_simp
  go_at_call 84
  refine (cloneInts_any (w0 := w0) hrI).mono ?_
  rintro e w6 ⟨d6, m6, rfl, own6, e6⟩
  have e6w : Ext w w6 := Ext.trans ed e6
  have hS6 := hSx.out w6 e6w
  have hB6 : B ≤ w6.heap.size := hBl.out _ e6w
  replace own6 := own6.mono (hBl.out _ ed)
  go_wp2_with fail
  refine hK.out _ _ hS6 (fun _ => ?_)
  clear hK K
  try simp only [List.getElem_toArray, List.getElem_cons_succ, List.getElem_cons_zero, Act.put, List.setIfInBounds_toArray, List.set_cons_zero, List.set_cons_succ]
  refine wpAnyH_ready (rs := [10]) (by kernel_rfl) (by simp) ?_
  refine AllReadyH.cons rfl (fun K hK => ?_) AllReadyH.nil
  go_simp
  have oL := own6.lit 27 1 1 #[.slice d6 S0.length m6] hB6 (by unfold maxLen; omega) rfl
  have e7w : Ext w (w6.alloc (.cells #[.slice d6 S0.length m6] 27)) := Ext.trans e6w inferInstance
  have hS7 := hSx.out _ e7w
  refine hK.out _ _ hS7 (fun _ => ?_)
  clear hK K
  try simp only [List.getElem_toArray, List.getElem_cons_succ, List.getElem_cons_zero, Act.put, List.setIfInBounds_toArray, List.set_cons_zero, List.set_cons_succ]
  generalize w6.alloc (.cells #[.slice d6 S0.length m6] 27) = w7 at *
  generalize w6.heap.size = gl at *
  refine wpAnyH_take (i := 11) (v := .slice (some ⟨gl, 0, none⟩) 1 1) rfl (by kernel_rfl) (by kernel_rfl) (by kernel_rfl) (fun _ _ _ h => h) (Or.inl ⟨by rfl, by intro wx hx; go_simp⟩) (by assumption) ?_
  try simp only [List.getElem_toArray, List.getElem_cons_succ, List.getElem_cons_zero, Act.put, List.setIfInBounds_toArray, List.set_cons_zero, List.set_cons_succ]
  refine wpAnyH_done (by kernel_rfl) ?_ _
  have tab0 : Tab w7 B (.slice (some ⟨gl, 0, none⟩) 1 1) (wlL M P a X 0) [] := ⟨[.slice d6 S0.length m6], rfl, by rw [hw0.out]; exact oL⟩
  have b7 : Below B w w7 := hXb.out _ e7w
  clear h2 hcr hrI hSx
  go_wp2_with fail
  go_loopw [7, 23] (fun ov i wr => ∃ q : Nat, q ≤ X.length ∧ i = .int .i64 q ∧ Tab wr B ov (wlL M P a X q) [] ∧ Below B w wr) (fun _ i _ => X.length - (intOf i).toNat)
  case atStart => exact ⟨0, by omega, rfl, tab0, b7⟩
  case round =>
    clear tab0 b7
    obtain ⟨q, hq, rfl, tab, hb⟩ := hrel
    obtain ⟨wq, rfl⟩ : ∃ y : World, y = wr := ⟨_, rfl⟩
    have eq : Ext w wq := hEx.out _ hb
    have e0q : Ext w0 wq := Ext.trans ‹Ext w0 w› eq
    have hBq := hBl.out _ eq
    by_cases hlt : q < X.length
    · obtain ⟨dO, nO, mO, rfl, hnO⟩ := tab.formN
      have hgW := hid (show GoodW M (confs M.length a.length 0) (wlAt M P a X q) 300000 by
        have h := (hwl.out q hq).mono (L' := 300000) (by omega)
        rw [hPd.out] at h ⊢; exact h)
      have hgN := hid (show GoodW M (confs M.length a.length 0) (wlAt M P a X (q + 1)) 300000 by
        have h := (hwl.out (q + 1) hlt).mono (L' := 300000) (by omega)
        rw [hPd.out] at h ⊢; exact h)
      have hT : IsRows wq (.slice dO nO mO) (wlL M P a X q) := tab.reads (by unfold ShortRows; rw [wlL_len]; omega) (fun r hr => by
        obtain ⟨j, hj, rfl⟩ := List.mem_map.1 hr
        have := List.mem_range.1 hj
        have h := (hwl.out j (by omega)).1.1
        unfold Short; omega) (fun r hr => by
        obtain ⟨j, hj, rfl⟩ := List.mem_map.1 hr
        have := List.mem_range.1 hj
        exact good_i64 (hwl.out j (by omega)) (by omega))
      obtain ⟨bO, oO, dW, mW, hdO, hcW, hWI, _⟩ := hT.at (w' := wq) (k := q) (by rw [wlL_len]; omega)
      cases hdO
      have hrq := hid (show row (wlL M P a X q) q = wlAt M P a X q from wlL_row (Nat.le_refl _))
      rw [hrq.out] at hcW hWI
      have hqn : q < nO := by rw [hnO.out, wlL_len]; omega
      obtain ⟨bX, oX, hdX, hcX⟩ := hX'.at (w' := wq) hlt
      cases hdX
      have hTl : (wlL M P a X q).length ≤ 1000000 := by rw [wlL_len]; omega
      have hTs := hid (show wlL M P a X (q + 1) = wlL M P a X q ++ [wlAt M P a X (q + 1)] from wlL_succ)
      have hnw := hid (show wnxL M P (wlAt M P a X q) (nth X q) = wlAt M P a X (q + 1) from rfl)
      have hlw := hid (show (wlAt M P a X q).length = P.length from (hwl.out q hq).1.1)
      have hwb := hid (show ∀ j, j < P.length → 0 ≤ nth (wlAt M P a X q) j ∧ nth (wlAt M P a X q) j ≤ 1000000 from fun j hj => by have := (hwl.out q hq).2 j hj; omega)
      obtain ⟨W, hWd⟩ : ∃ y, y = wlAt M P a X q := ⟨_, rfl⟩
      rw [← hWd] at hcW hWI hnw hlw hwb
      obtain ⟨NW, hNW⟩ : ∃ y, y = wlAt M P a X (q + 1) := ⟨_, rfl⟩
      rw [← hNW] at hnw hTs
      obtain ⟨T, hTd⟩ : ∃ y, y = wlL M P a X q := ⟨_, rfl⟩
      rw [← hTd] at hTs hTl tab
      clear hT
      replace hWd := hid hWd
      replace hNW := hid hNW
      replace hTd := hid hTd
      go_wp2_with fail
      with_reducible refine (wnx_any (w0 := wq) (w := wq) (hW'.ext (w' := wq)) hWI hcp (by omega) hlw.out hwb.out hmv.out).mono ?_
      rw [hnw.out]
      rintro e w5 ⟨d5, m5, rfl, own5, e5⟩
      have tabX := tab.join own5 e5 hBq
      have hB5 : B ≤ w5.heap.size := Nat.le_trans hBq e5.size
      clear tab own5
      go_wp2_with (at_builtin; refine wpList_push rfl (.tmp 28) (.tmp 36) rfl rfl tabX hB5 rfl hTl ?_; intro v9 w9 tab9 b9)
      go_roundw
      case rel => exact ⟨q + 1, by omega, by go_num, by rw [hTs.out]; exact tab9, (hb.trans (e5.below.mono hBq)).trans b9⟩
      case measure => simp [intOf]; omega
    · have hqn : q = X.length := by omega
      rw [hqn] at tab
      replace hqn := hid hqn
      go_wp2_with fail
      go_ret
      exact ⟨_, rfl, tab, eq⟩
def rrT (M : List (List Int)) (a X : List Int) : List (List Int) := if srvB M a X then rnT M (confs M.length a.length 0) a X X.length else []
def rrS (M : List (List Int)) (a X : List Int) : Int := if srvB M a X then rnS M (confs M.length a.length 0) a X X.length else 0
theorem rr_no {M : List (List Int)} {a X : List Int} (h : srvB M a X = false) : rrT M a X = [] ∧ rrS M a X = 0 ∧ srvB M a X = false := by simp [rrT, rrS, h]
theorem rr_yes {M : List (List Int)} {a X : List Int} (h : srvB M a X = true) : rrT M a X = rnT M (confs M.length a.length 0) a X X.length ∧ rrS M a X = rnS M (confs M.length a.length 0) a X X.length ∧ srvB M a X = true := by simp [rrT, rrS, h]
theorem srv_parts {M : List (List Int)} {a X : List Int} (h : srvB M a X = true) : metB M = true ∧ (1 ≤ a.length ∧ a.length ≤ 3) ∧ a ∈ confs M.length a.length 0 ∧ X.length ≤ 60 ∧ ∀ j, j < X.length → 0 ≤ nth X j ∧ nth X j < (M.length : Int) := by
  obtain ⟨h1, h2, h3, h4⟩ := srvB_iff.1 h
  exact ⟨h1, (cfgB_iff.1 h2).1, cfg_conf h2 rfl, h3, fun j hj => belowB_at h4 hj⟩
set_option maxHeartbeats 1600000 in
set_option maxRecDepth 100000 in
theorem specRun_any {v va vX : Value} {M : List (List Int)} {a X : List Int} {w0 w : World} [Ext w0 w] (hm : IsMet w0 v M) (ha : IsInts w0 va a) (hXi : IsInts w0 vX X) :
    Calls Tryz.prog 51 #[v, va, vX] w fun e w' => ∃ d0 m0, e = .returned (.tuple #[.slice d0 (rrT M a X).length m0, .int .i64 (rrS M a X), .bool (srvB M a X)]) ∧ IsRows w' (.slice d0 (rrT M a X).length m0) (rrT M a X) ∧ Ext w w' := by
  have hm' := hm
  obtain ⟨v1, rfl, hR⟩ := hm
  obtain ⟨a1, c1, rfl, l1⟩ := hR.form
  have ha' := ha
  obtain ⟨da, ma, rfl, la⟩ := ha.form
  have hX' := hXi
  obtain ⟨dX, mX, rfl, lX⟩ := hXi.form
  have x0 : (w.alloc (.cells #[.slice a1 M.length c1] 26)).cell? ⟨w.heap.size, 0, none⟩ = some (.slice a1 M.length c1) := by go_simp
  cases hM : metB M with
  | false =>
    have hr := hid (rr_no (show srvB M a X = false by simp [srvB, hM]))
    replace hM := hid hM
    go_enter Tryz.func51, Tryz.ntmps51
    go_wp2_with fail
    with_reducible refine (l6Good_any (w0 := w0) hm').mono ?_
    rw [hM.out]
    rintro e w1 ⟨rfl, e1⟩
    go_wp2_with fail
    go_ret3
    rw [hr.out.1, hr.out.2.1, hr.out.2.2]
    exact ⟨_, _, rfl, isRows_zero _ _ _, Ext.trans inferInstance (Ext.trans e1 inferInstance)⟩
  | true =>
    have hM' := hid hM
    clear hM
    cases hS : srvB M a X with
    | false =>
      have hr := hid (rr_no hS)
      replace hS := hid hS
      go_enter Tryz.func51, Tryz.ntmps51
      go_wp2_with fail
      with_reducible refine (l6Good_any (w0 := w0) hm').mono ?_
      rw [hM'.out]
      rintro e w1 ⟨rfl, e1⟩
      have x1 := e1.cell x0
      have e1w : Ext w w1 := Ext.trans inferInstance e1
      have e01 : Ext w0 w1 := Ext.trans ‹Ext w0 w› e1w
      clear x0 e1
      go_wp2_with fail
      with_reducible refine (l6Start_any (w0 := w0) hm' ha' hX').mono ?_
      rw [hS.out]
      rintro e w2 ⟨rfl, e2⟩
      go_wp2_with fail
      go_ret3
      rw [hr.out.1, hr.out.2.1]
      exact ⟨_, _, rfl, isRows_zero _ _ _, Ext.trans e1w (Ext.trans e2 inferInstance)⟩
    | true =>
      obtain ⟨_, hk, hac, hl, hX⟩ := srv_parts hS
      have hr := hid (rr_yes hS)
      have hac' := hid hac
      have hX2 := hid hX
      clear hac hX
      replace hS := hid hS
      go_enter Tryz.func51, Tryz.ntmps51
      go_wp2_with fail
      with_reducible refine (l6Good_any (w0 := w0) hm').mono ?_
      rw [hM'.out]
      rintro e w1 ⟨rfl, e1⟩
      have x1 := e1.cell x0
      have e1w : Ext w w1 := Ext.trans inferInstance e1
      have e01 : Ext w0 w1 := Ext.trans ‹Ext w0 w› e1w
      clear x0 e1
      go_wp2_with fail
      with_reducible refine (l6Start_any (w0 := w0) hm' ha' hX').mono ?_
      rw [hS.out]
      rintro e w2 ⟨rfl, e2⟩
      have x2 := e2.cell x1
      have e2w : Ext w w2 := Ext.trans e1w e2
      have e02 : Ext w0 w2 := Ext.trans ‹Ext w0 w› e2w
      clear x1 e2
      go_wp2_with fail
      with_reducible refine (l7Run_any (w0 := w0) hm' hM'.out ha' hX' hk.1 hk.2 hac'.out (by omega) hX2.out).mono ?_
      rintro e w3 ⟨u, rfl, hU, e3⟩
      obtain ⟨dU, mU, rfl, lU⟩ := hU.form
      go_wp2_with fail
      go_ret3
      rw [hr.out.1, hr.out.2.1]
      exact ⟨_, _, rfl, hU, Ext.trans e2w e3⟩
set_option maxHeartbeats 1600000 in
set_option maxRecDepth 100000 in
theorem implRun_any {v va vX : Value} {M : List (List Int)} {a X : List Int} {w0 w : World} [Ext w0 w] (hm : IsMet w0 v M) (ha : IsInts w0 va a) (hXi : IsInts w0 vX X) :
    Calls Tryz.prog 32 #[v, va, vX] w fun e w' => ∃ d0 m0 vs0, e = .returned (.tuple #[.slice d0 (rrT M a X).length m0, .int .i64 (rrS M a X), .bool (srvB M a X)]) ∧ vs0.length = (rrT M a X).length ∧ Own w' w.heap.size (rowsOf 27 3 (.slice d0 (rrT M a X).length m0) vs0 (rrT M a X)) ∧ Ext w w' := by
  have hm' := hm
  obtain ⟨v1, rfl, hR⟩ := hm
  obtain ⟨a1, c1, rfl, l1⟩ := hR.form
  have ha' := ha
  obtain ⟨da, ma, rfl, la⟩ := ha.form
  have hX' := hXi
  obtain ⟨dX, mX, rfl, lX⟩ := hXi.form
  have x0 : (w.alloc (.cells #[.slice a1 M.length c1] 26)).cell? ⟨w.heap.size, 0, none⟩ = some (.slice a1 M.length c1) := by go_simp
  cases hS : srvB M a X with
  | false =>
    have hr := hid (rr_no hS)
    replace hS := hid hS
    go_enter Tryz.func32, Tryz.ntmps32
    go_wp2_with fail
    with_reducible refine (isServed_any (w0 := w0) hm' ha' hX').mono ?_
    rw [hS.out]
    rintro e w1 ⟨rfl, e1⟩
    go_wp2_with fail
    go_ret3
    rw [hr.out.1, hr.out.2.1]
    exact ⟨_, _, [], rfl, rfl, (Own.nil _ _).cons_nil _ _, Ext.trans inferInstance e1⟩
  | true =>
    obtain ⟨hM, hk, hac, hl, hX⟩ := srv_parts hS
    have hr := hid (rr_yes hS)
    have hMl := met_len hM
    have hdst := hid (dst_of_met hM)
    have hwl := hid (wl_good hdst.out hk.1 hk.2 hac hX (by omega))
    have hrn := hid (rn_conf hdst.out hk.1 hk.2 hac hX (by omega))
    have hcl := hid (show ∀ c, c ∈ confs M.length a.length 0 → c.length = a.length ∧ ∀ x ∈ c, I64 x from fun c hc => by
      obtain ⟨h1, _, h3⟩ := confs_iff.1 hc
      exact ⟨h1, fun x hx => by have := h3 x hx; unfold I64; omega⟩)
    have h216 := confs_216 hMl.2 hk.2
    have hM' := hid hM
    have hac' := hid hac
    have hX2 := hid hX
    clear hac hX hM
    replace hS := hid hS
    go_enter Tryz.func32, Tryz.ntmps32
    go_wp2_with fail
    with_reducible refine (isServed_any (w0 := w0) hm' ha' hX').mono ?_
    rw [hS.out]
    rintro e w1 ⟨rfl, e1⟩
    have x1 := e1.cell x0
    have e1w : Ext w w1 := Ext.trans inferInstance e1
    have e01 : Ext w0 w1 := Ext.trans ‹Ext w0 w› e1w
    clear x0 e1
    go_wp2_with fail
    with_reducible refine (worksOf_any (w0 := w0) hm' hM'.out hk.1 hk.2).mono ?_
    rintro e w2 ⟨u, rfl, hW, e2⟩
    have e2w : Ext w w2 := Ext.trans e1w e2
    have e02 : Ext w0 w2 := Ext.trans ‹Ext w0 w› e2w
    clear x1 e2
    go_wp2_with fail
    with_reducible refine (lists_any (w0 := w2) (w := w2) hW hM'.out (ha'.ext (w' := w2)) (hX'.ext (w' := w2)) hk.1 hk.2 hac'.out (by omega) hX2.out).mono ?_
    rintro e w3 ⟨vT, rfl, tabT, e3⟩
    have e3w : Ext w w3 := Ext.trans e2w e3
    have e03 : Ext w0 w3 := Ext.trans ‹Ext w0 w› e3w
    have hW3 := hW.ext (w' := w3)
    obtain ⟨P, hPd⟩ : ∃ p, p = confs M.length a.length 0 := ⟨_, rfl⟩
    rw [← hPd] at tabT hwl hrn hcl hac' h216 hr
    replace hPd := hid hPd
    have hT : IsRows w3 vT (wlL M P a X X.length) := tabT.reads (by unfold ShortRows; rw [wlL_len]; omega) (fun r hr => by
      obtain ⟨j, hj, rfl⟩ := List.mem_map.1 hr
      have := List.mem_range.1 hj
      have h := (hwl.out j (by omega)).1.1
      unfold Short; omega) (fun r hr => by
      obtain ⟨j, hj, rfl⟩ := List.mem_map.1 hr
      have := List.mem_range.1 hj
      exact good_i64 (hwl.out j (by omega)) (by omega))
    clear tabT
    obtain ⟨dT, mT, rfl, lT⟩ := hT.form
    obtain ⟨B, hB⟩ : ∃ b, b = w3.heap.size := ⟨_, rfl⟩
    have hEx := hid (show ∀ u, Below B w3 u → Ext w3 u from fun u h => ⟨by rw [← hB]; exact h⟩)
    have hBl := hid (show ∀ u, Ext w3 u → B ≤ u.heap.size from fun u e => by rw [hB]; exact e.size)
    have hBw := hid (show w.heap.size ≤ B by rw [hB]; exact e3w.size)
    have tab0 : Tab (w3.alloc (.cells #[] 27)) B (.slice (some ⟨w3.heap.size, 0, none⟩) 0 0) [] [] := Tab.start (Own.nil _ _) (by rw [hB]; exact Nat.le_refl _)
    have b0 : Below B w3 (w3.alloc (.cells #[] 27)) := by rw [hB]; exact (Below.refl _ _).alloc (Nat.le_refl _) _
    replace hB := hid hB
    go_wp2_with fail
    go_loopw [1, 11, 12, 33] (fun av ov sv i wr => ∃ q : Nat, q ≤ X.length ∧ i = .int .i64 q ∧ sv = .int .i64 (rnS M P a X q) ∧ (∃ R, Tab wr B ov (rnT M P a X q) R ∧ Hid (∀ u, Own u B R → Below B w3 u → IsInts u av (rnA M P a X q))) ∧ Below B w3 wr) (fun _ _ _ i _ => X.length - (intOf i).toNat)
    case atStart => exact ⟨0, by omega, rfl, rfl, ⟨[], tab0, fun u _ h => ha'.ext (e := Ext.trans e03 (hEx.out _ h))⟩, b0⟩
    case round =>
      clear tab0 b0
      obtain ⟨q, hq, rfl, rfl, ⟨R, tab, hrd⟩, hb⟩ := hrel
      obtain ⟨wq, rfl⟩ : ∃ y : World, y = wr := ⟨_, rfl⟩
      have eq : Ext w3 wq := hEx.out _ hb
      have e0q : Ext w0 wq := Ext.trans e03 eq
      have hBq := hBl.out _ eq
      by_cases hlt : q < X.length
      · obtain ⟨dO, nO, mO, rfl, hnO⟩ := tab.formN
        have hA := hrd.out wq tab.rest hb
        clear hrd
        have hAc := hid (show rnA M P a X q ∈ confs M.length a.length 0 by
          have h := (hrn.out q hq).1
          rw [← hPd.out]; exact h)
        have hgN := hid (show GoodW M (confs M.length a.length 0) (wlAt M P a X (q + 1)) 300000 by
          have h := (hwl.out (q + 1) hlt).mono (L' := 300000) (by omega)
          rw [← hPd.out]; exact h)
        obtain ⟨bT, oT, dW, mW, hdT, hcW, hWI, _⟩ := hT.at (w' := wq) (k := q + 1) (by rw [wlL_len]; omega)
        cases hdT
        have hrq := hid (show row (wlL M P a X X.length) (q + 1) = wlAt M P a X (q + 1) from wlL_row (by omega))
        rw [hrq.out] at hcW hWI
        have hqn : q + 1 < (wlL M P a X X.length).length := by rw [wlL_len]; omega
        obtain ⟨bX, oX, hdX, hcX⟩ := hX'.at (w' := wq) hlt
        cases hdX
        have hri := hid (hX2.out q hlt)
        have hTl : (rnT M P a X q).length ≤ 1000000 := by rw [rnT_len]; omega
        have hTs := hid (show rnT M P a X (q + 1) = rnT M P a X q ++ [rnA M P a X (q + 1)] from rnT_succ)
        have hsc := hid (show svC M (confs M.length a.length 0) (wlAt M P a X (q + 1)) (rnA M P a X q) (nth X q) = rnA M P a X (q + 1) by rw [← hPd.out]; rfl)
        have hsk := hid (show svK M (confs M.length a.length 0) (wlAt M P a X (q + 1)) (rnA M P a X q) (nth X q) = rnS M P a X (q + 1) - rnS M P a X q by rw [← hPd.out, rnS]; omega)
        have hA2 := hid (hcl.out _ (hrn.out (q + 1) hlt).1)
        have hb1 := (hrn.out q hq).2
        have hb2 := (hrn.out (q + 1) hlt).2
        obtain ⟨A, hAd⟩ : ∃ y, y = rnA M P a X q := ⟨_, rfl⟩
        rw [← hAd] at hA hAc hsc hsk
        obtain ⟨NW, hNW⟩ : ∃ y, y = wlAt M P a X (q + 1) := ⟨_, rfl⟩
        rw [← hNW] at hgN hcW hWI hsc hsk
        obtain ⟨A2, hA2d⟩ : ∃ y, y = rnA M P a X (q + 1) := ⟨_, rfl⟩
        rw [← hA2d] at hsc hTs hA2
        obtain ⟨r, hrd⟩ : ∃ y, y = nth X q := ⟨_, rfl⟩
        rw [← hrd] at hri hsc hsk hcX
        obtain ⟨L, hL⟩ : ∃ y, y = rnT M P a X q := ⟨_, rfl⟩
        rw [← hL] at tab hTs hTl
        obtain ⟨s1, hs1⟩ : ∃ y, y = rnS M P a X q := ⟨_, rfl⟩
        rw [← hs1] at hsk hb1 ⊢
        obtain ⟨ck, hck⟩ : ∃ y, y = rnS M P a X (q + 1) - s1 := ⟨_, rfl⟩
        rw [← hck] at hsk
        have hck2 := hid (show s1 + ck = rnS M P a X (q + 1) by omega)
        have hsb : 0 ≤ s1 + ck ∧ s1 + ck ≤ 1000000 := by omega
        clear hb2
        have hs99 : 0 ≤ s1 ∧ s1 ≤ 100000 := by omega
        clear hb1
        replace hAd := hid hAd
        replace hNW := hid hNW
        replace hA2d := hid hA2d
        replace hrd := hid hrd
        replace hL := hid hL
        replace hs1 := hid hs1
        replace hck := hid hck
        obtain ⟨dA, mA, hAv, lA⟩ := hA.form
        subst hAv
        go_wp2_with fail
        with_reducible refine (serve_any (w0 := wq) (w := wq) (hW3.ext (w' := wq)) hM'.out (hWI.ext (w' := wq)) hA hk.1 hk.2 hAc.out hgN.out (by omega) hri.out).mono ?_
        rw [hsc.out, hsk.out]
        rintro e w5 ⟨u5, rfl, own5, e5⟩
        have hU : IsInts w5 u5 A2 := own5.reads (by unfold Short; have := hA2.out.1; omega) hA2.out.2
        have tab5 := tab.side own5 e5 hBq
        obtain ⟨dU, mU, rfl, lU⟩ := hU.form
        have hB5 : B ≤ w5.heap.size := Nat.le_trans hBq e5.size
        clear tab own5
        go_wp2_with fail
        with_reducible refine (cloneInts_any (w0 := w5) (w := w5) hU).mono ?_
        rintro e w6 ⟨d6, m6, rfl, own6, e6⟩
        have tabX := tab5.join own6 e6 hB5
        have hB6 : B ≤ w6.heap.size := Nat.le_trans hB5 e6.size
        clear tab5 own6
        go_wp2_with (at_builtin; refine wpList_push rfl (.tmp 50) (.tmp 53) rfl rfl tabX hB6 rfl hTl ?_; intro v9 w9 tab9 b9)
        go_roundw
        case rel => exact ⟨q + 1, by omega, by go_num, by rw [hck2.out], ⟨_, by rw [hTs.out]; exact tab9, fun u h _ => by
          rw [← hA2d.out]
          exact h.reads (by unfold Short; have := hA2.out.1; omega) hA2.out.2⟩, ((hb.trans (e5.below.mono hBq)).trans (e6.below.mono hB5)).trans b9⟩
        case measure => simp [intOf]; omega
      · have hqn : q = X.length := by omega
        rw [hqn] at tab
        have hsq := hid (show rnS M P a X q = rnS M P a X X.length by rw [hqn])
        rw [hsq.out]
        replace hqn := hid hqn
        obtain ⟨vs, hv1, hv2⟩ := tab.drop
        rw [List.append_nil] at hv2
        obtain ⟨dO, mO, hO⟩ := tab.form
        subst hO
        go_wp2_with fail
        go_ret3
        rw [hr.out.1, hr.out.2.1]
        exact ⟨_, _, vs, rfl, hv1, hv2.mono hBw.out, Ext.trans e3w eq⟩
end Go.Proofs.YtmgcfnciejfpbaaGreat
