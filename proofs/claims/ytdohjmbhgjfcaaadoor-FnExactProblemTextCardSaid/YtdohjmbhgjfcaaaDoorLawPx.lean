/- 'laws.FnExactProblemText' walked: it returns true for every input. -/
import Derived.Test.YtdohjmbhgjfcaaaDoorTxd
import Derived.Deep.RegionWith
import Derived.Deep.Cut
import Derived.Deep.DeepCutAuto
namespace Go.Proofs.YtdohjmbhgjfcaaaDoor
open Go.RowKit

set_option maxHeartbeats 1000000 in
set_option maxRecDepth 100000 in
theorem lawProblemText_any {v : Value} {M S : List (List Int)} {w : World} (hp : IsProb w v M S) (ht : Tens w) (hmx : Most w) :
    Calls Tryd.prog 4 #[v] w fun e w' => e = .returned (.bool true) ∧ Ext w w' := by
  have hp' := hp
  obtain ⟨v1, v2, rfl, hM, hS⟩ := hp
  obtain ⟨a1, c1, rfl, l1⟩ := hM.form
  obtain ⟨a2, c2, rfl, l2⟩ := hS.form
  replace ht := hid ht
  replace hmx := hid hmx
  by_cases hbig : (1048576 : Int) - (M.length + sumLen M + (S.length + sumLen S) : Nat) < 0
  · have hl := hid (show leftOf 1048576 (M.length + sumLen M + (S.length + sumLen S)) = -1 by rw [leftOf, if_pos hbig])
    go_enter Tryd.func4, Tryd.ntmps4
    go_wp2_with fail
    refine (szProblem_any (w0 := w) hp' (by omega) (by omega)).mono ?_
    rw [hl.out]; rintro e w1 ⟨rfl, hb1⟩
    go_wp2_with fail
    go_ret
    exact ⟨rfl, Ext.trans inferInstance hb1⟩
  · have hl := hid (show leftOf 1048576 (M.length + sumLen M + (S.length + sumLen S)) = 1048576 - (M.length + sumLen M + (S.length + sumLen S) : Nat) by rw [leftOf, if_neg hbig])
    have hl0 : 0 ≤ (1048576 : Int) - (M.length + sumLen M + (S.length + sumLen S) : Nat) := by omega
    generalize hz : (1048576 : Int) - (M.length + sumLen M + (S.length + sumLen S) : Nat) = z at *
    replace hz := hid hz
    clear hbig
    have heq := hid (show eqP M S M S = true from eqP_iff.2 ⟨rfl, rfl⟩)
    go_enter Tryd.func4, Tryd.ntmps4
    go_wp2_with fail
    refine (szProblem_any (w0 := w) hp' (by omega) (by omega)).mono ?_
    rw [hl.out]; rintro e w1 ⟨rfl, hb1⟩
    have x0 : w1.cell? ⟨w.heap.size, 0, none⟩ = some (.slice a1 M.length c1) := hb1.cell (by go_simp)
    have x1 : w1.cell? ⟨w.heap.size, 1, none⟩ = some (.slice a2 S.length c2) := hb1.cell (by go_simp)
    have e1 : Ext w w1 := Ext.trans inferInstance hb1
    clear hb1
    go_wp2_with fail
    refine (toProblem_any (w0 := w) hp').mono ?_
    rintro e w2 ⟨d1, m1, vs1, d2, m2, vs2, rfl, hl1, hl2, own1, hb2⟩
    have p2 := (show Own w2 w1.heap.size (rowsOf _ _ _ vs1 M ++ (rowsOf _ _ _ vs2 S ++ [])) by rw [List.append_nil]; exact own1).prob hl1 hl2 hp'
    replace x0 := hb2.cell x0
    replace x1 := hb2.cell x1
    have e2 : Ext w w2 := Ext.trans e1 hb2
    clear own1
    obtain ⟨Q, hQ⟩ : ∃ q, q = probB M S := ⟨_, rfl⟩
    obtain ⟨T, hT⟩ : ∃ t, t = bsOf (ptR M S) := ⟨_, rfl⟩
    replace hQ := hid hQ
    replace hT := hid hT
    have q1 : (Q != Q) = false := by simp
    go_wp2_with fail
    refine (specPt_any (w0 := w2) p2).mono ?_
    rw [← hQ.out, ← hT.out]
    rintro e w3 ⟨rfl, hb3⟩
    replace x0 := hb3.cell x0
    replace x1 := hb3.cell x1
    have e3 : Ext w w3 := Ext.trans e2 hb3
    go_wp2_with fail
    refine (toProblem_any (w0 := w) hp').mono ?_
    rintro e w4 ⟨d3, m3, vs3, d4, m4, vs4, rfl, hl3, hl4, own2, hb4⟩
    have p4 := (show Own w4 w3.heap.size (rowsOf _ _ _ vs3 M ++ (rowsOf _ _ _ vs4 S ++ [])) by rw [List.append_nil]; exact own2).prob hl3 hl4 hp'
    replace x0 := hb4.cell x0
    replace x1 := hb4.cell x1
    have e4 : Ext w w4 := Ext.trans e3 hb4
    have ht4 := hid (ht.out.ext (w' := w4))
    have hm4 := hid (hmx.out.ext (w' := w4))
    clear own2
    go_wp2_with fail
    refine (implPt_any (w0 := w4) p4 ht4.out hm4.out).mono ?_
    rw [← hQ.out, ← hT.out]
    rintro e w5 ⟨rfl, hb5⟩
    have y0 : w5.cell? ⟨w4.heap.size, 0, none⟩ = some (.slice d3 M.length m3) := hb5.cell (by go_simp)
    have y1 : w5.cell? ⟨w4.heap.size, 1, none⟩ = some (.slice d4 S.length m4) := hb5.cell (by go_simp)
    have e45 : Ext w4 w5 := Ext.trans inferInstance hb5
    replace x0 := e45.cell x0
    replace x1 := e45.cell x1
    have e5 : Ext w w5 := Ext.trans e4 e45
    clear hb5
    go_upto_region 10 with fail
    go_cut [39] (fun q wx => q = .bool false ∧ Ext w5 wx)
    case first =>
      go_region_with (first
        | (go_at_call 21; refine (toProblem_any (w0 := w) hp').mono ?_; rintro e w6 ⟨d5, m5, vs5, d6, m6, vs6, rfl, hl5, hl6, own3, hb6⟩; have p6 := own3.prob' hl5 hl6 hp'; have e56 : Ext w5 w6 := Ext.trans inferInstance hb6; have e46 : Ext w4 w6 := Ext.trans e45 e56; have y0' := e56.cell y0; have y1' := e56.cell y1)
        | (go_at_call 23; refine (eqProblem_any (w0 := w6) p4.ext p6).mono ?_; rw [heq.out]; rintro e w7 ⟨rfl, hb7⟩))
      all_goals
        go_wp2_with fail
        go_meet
        exact ⟨rfl, Ext.trans e56 hb7⟩
    case rest =>
      obtain ⟨rfl, hb6⟩ := hcut
      go_wp2_with fail
      go_ret
      exact ⟨rfl, Ext.trans e5 hb6⟩
end Go.Proofs.YtdohjmbhgjfcaaaDoor
