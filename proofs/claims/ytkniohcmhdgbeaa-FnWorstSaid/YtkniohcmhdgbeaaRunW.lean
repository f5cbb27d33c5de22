/- The run of an algorithm: the reference's states and cost, the program's run. -/
import Derived.Test.YtkniohcmhdgbeaaRun
import Derived.Test.YtkniohcmhdgbeaaReads
import Derived.Deep.RegionWith
import Derived.IntWalk
namespace Go.Proofs.Ytkniohcmhdgbeaa
open Go.RowKit

set_option maxHeartbeats 800000 in
set_option maxRecDepth 100000 in
theorem l8States_any {v1 v3 : Value} {M S N : List (List Int)} {start : Int} {X : List Int} {w0 w : World} [Ext w0 w] (hN : IsRows w0 v1 N) (hx : IsInts w0 v3 X) (hst : startB M S start X = true) (ha : algB M S N = true) :
    Calls Try.prog 50 #[v1, .int .i64 start, v3] w fun e w' => ∃ d m, e = .returned (.slice d (statesTo N start X X.length).length m) ∧ Own w' w.heap.size [intRowOf 3 (.slice d (statesTo N start X X.length).length m) (statesTo N start X X.length)] ∧ Ext w w' := by
  obtain ⟨a1, c1, rfl, l1⟩ := hN.form
  obtain ⟨a3, c3, rfl, l3⟩ := hx.form
  replace hst := hid hst
  replace ha := hid ha
  have hNl := hid (algB_len ha.out)
  go_enter Try.func50, Try.ntmps50
  go_upto_region 2 with fail
  generalize hW : w.alloc (.cells #[] 3) = W
  have eW : Ext w W := hW ▸ inferInstance
  have own0 : Own W w.heap.size [intRowOf 3 (.slice (some ⟨w.heap.size, 0, none⟩) ([] : List Int).length 0) []] := by
    subst hW
    exact Own.litInts (by simp) (by simp) rfl (by simp) rfl
  clear hW
  go_wp2
  go_loopw [7, 8, 9] (fun v q i wr => ∃ j : Nat, j ≤ X.length ∧ i = .int .i64 j ∧ q = .int .i64 (stAt N start X j) ∧ Own wr w.heap.size [intRowOf 3 v (statesTo N start X j)] ∧ Ext w wr) (fun _ _ i _ => X.length - (intOf i).toNat)
  case atStart => exact ⟨0, by omega, rfl, rfl, own0, eW⟩
  case round =>
    obtain ⟨j, hj, rfl, rfl, hown, hb⟩ := hrel
    obtain ⟨vd, vm, rfl⟩ := hown.formInts
    have hlj : (statesTo N start X j).length ≤ X.length := by rw [statesTo_length]; omega
    by_cases hlt : j < X.length
    · have e1 : Ext w0 wr := Ext.trans ‹Ext w0 w› hb
      obtain ⟨b3, o3, rfl, hc3⟩ := hx.at (w' := wr) hlt
      have hB : w.heap.size ≤ wr.heap.size := hb.size
      have hr := startB_req hst.out hlt
      have hs := stAt_in hst.out ha.out (k := j) (by omega)
      have hsucc := hid (statesTo_succ N start X j)
      have hs1 := hid (show stAt N start X (j + 1) = cell N (stAt N start X j).toNat (nth X j).toNat from rfl)
      obtain ⟨r, hr'⟩ := Int.eq_ofNat_of_zero_le hr.1
      obtain ⟨t, ht'⟩ := Int.eq_ofNat_of_zero_le hs.1
      have htM : t < M.length := by have := hs.2; omega
      have hrS : r < S.length := by have := hr.2; omega
      have htn : t < N.length := by rw [hNl.out]; exact htM
      have hrow := hid (algB_row ha.out htM)
      clear hr hs
      rw [hr'] at hc3
      rw [ht']
      have hs2 := hid (show stAt N start X (j + 1) = cell N t r by rw [hs1.out, hr', ht']; simp)
      clear hs1
      replace hr' := hid hr'
      replace ht' := hid ht'
      obtain ⟨b5, o5, d5, m5, rfl, hc5, hr5, _⟩ := hN.at (w' := wr) htn
      rw [hrow.out] at hr5 hc5
      obtain ⟨b6, o6, rfl, hc6⟩ := hr5.at (w' := wr) (k := r) (by rw [hrow.out]; exact hrS)
      have hc6' : wr.cell? ⟨b6, o6 + r, none⟩ = some (.int .i64 (cell N t r)) := hc6
      clear hc6
      go_upto_region 6 with (go_quiet (fail))
      replace hb : Ext w (wr.drewN nq) := Ext.trans hb inferInstance
      replace hown := hown.ext (w' := wr.drewN nq)
      generalize wr.drewN nq = wq at *
      replace hB : w.heap.size ≤ wq.heap.size := hb.size
      generalize hg : statesTo N start X j = st at *
      replace hg := hid hg
      go_wp2_with (at_builtin; refine wpList_append1 rfl _ _ _ rfl elemInt rfl hown hB rfl rfl (by omega) (by omega) ?_; intro v1 w1 ho hb1)
      go_roundw
      case rel =>
        exact ⟨j + 1, by omega, by go_num, by rw [hs2.out], by rw [hsucc.out, hs2.out]; exact own_snoc ho rfl, ⟨hb.below.trans hb1⟩⟩
      case measure => simp [intOf]; omega
    · go_wp2
      go_ret
      have : j = X.length := by omega
      subst this
      exact ⟨_, _, rfl, hown, hb⟩

set_option maxHeartbeats 1600000 in
set_option maxRecDepth 100000 in
theorem ran_any {v1 v2 v4 v3 : Value} {M S N : List (List Int)} {start : Int} {X : List Int} {w0 w : World} [Ext w0 w] (hM : IsRows w0 v1 M) (hS : IsRows w0 v2 S) (hN : IsRows w0 v4 N) (hx : IsInts w0 v3 X) (hst : startB M S start X = true) (ha : algB M S N = true) :
    Calls Try.prog 41 #[.agg #[v1, v2], v4, .int .i64 start, v3] w fun e w' => ∃ d m, e = .returned (.tuple #[.slice d (statesTo N start X X.length).length m, .int .i64 (sumA M S N start X X.length)]) ∧ Own w' w.heap.size [intRowOf 3 (.slice d (statesTo N start X X.length).length m) (statesTo N start X X.length)] ∧ Ext w w' := by
  have hM' := hM
  have hS' := hS
  obtain ⟨a1, c1, rfl, l1⟩ := hM.form
  obtain ⟨a2, c2, rfl, l2⟩ := hS.form
  obtain ⟨a4, c4, rfl, l4⟩ := hN.form
  obtain ⟨a3, c3, rfl, l3⟩ := hx.form
  replace hst := hid hst
  replace ha := hid ha
  have hp := hid (startB_prob hst.out)
  have hNl := hid (algB_len ha.out)
  go_enter Try.func41, Try.ntmps41
  go_upto_region 2 with fail
  generalize hW : (w.alloc (.cells #[.slice a1 M.length c1, .slice a2 S.length c2] 26)).alloc (.cells #[] 3) = W
  have eW : Ext w W := hW ▸ inferInstance
  have x0 : W.cell? ⟨w.heap.size, 0, none⟩ = some (.slice a1 M.length c1) := by subst hW; go_simp
  have x1 : W.cell? ⟨w.heap.size, 1, none⟩ = some (.slice a2 S.length c2) := by subst hW; go_simp
  have hB1 : w.heap.size + 1 ≤ W.heap.size := by subst hW; simp
  have own0 : Own W (w.heap.size + 1) [intRowOf 3 (.slice (some ⟨w.heap.size + 1, 0, none⟩) ([] : List Int).length 0) []] := by
    subst hW
    exact Own.litInts (by simp) (by simp) rfl (by simp) rfl
  clear hW
  go_wp2
  go_loopw [2, 10, 11, 18] (fun q v p i wr => ∃ j : Nat, j ≤ X.length ∧ i = .int .i64 j ∧ q = .int .i64 (stAt N start X j) ∧ p = .int .i64 (sumA M S N start X j) ∧ Own wr (w.heap.size + 1) [intRowOf 3 v (statesTo N start X j)] ∧ Below (w.heap.size + 1) W wr) (fun _ _ _ i _ => X.length - (intOf i).toNat)
  case atStart => exact ⟨0, by omega, rfl, rfl, rfl, own0, Below.refl _ _⟩
  case round =>
    obtain ⟨j, hj, rfl, rfl, rfl, hown, hb0⟩ := hrel
    obtain ⟨vd, vm, rfl⟩ := hown.formInts
    have hlj : (statesTo N start X j).length ≤ X.length := by rw [statesTo_length]; omega
    have hb : Ext w wr := ⟨eW.below.trans (hb0.mono (by omega))⟩
    have e1 : Ext w0 wr := Ext.trans ‹Ext w0 w› hb
    have y0 : wr.cell? ⟨w.heap.size, 0, none⟩ = some (.slice a1 M.length c1) := (hb0.cell (p := ⟨w.heap.size, 0, none⟩) (by simp)).trans x0
    have y1 : wr.cell? ⟨w.heap.size, 1, none⟩ = some (.slice a2 S.length c2) := (hb0.cell (p := ⟨w.heap.size, 1, none⟩) (by simp)).trans x1
    by_cases hlt : j < X.length
    · obtain ⟨b3, o3, rfl, hc3⟩ := hx.at (w' := wr) hlt
      have hr := startB_req hst.out hlt
      have hs := stAt_in hst.out ha.out (k := j) (by omega)
      have hz := stAt_in hst.out ha.out (k := j + 1) (by omega)
      have hsucc := hid (statesTo_succ N start X j)
      have hs1 := hid (show stAt N start X (j + 1) = cell N (stAt N start X j).toNat (nth X j).toNat from rfl)
      have hsum := hid (show sumA M S N start X (j + 1) = sumA M S N start X j + stepC M S (nth X j) (stAt N start X j) (stAt N start X (j + 1)) from rfl)
      have hsb := hid (sumA_le hst.out ha.out (k := j) (by omega))
      obtain ⟨r, hr'⟩ := Int.eq_ofNat_of_zero_le hr.1
      obtain ⟨t, ht'⟩ := Int.eq_ofNat_of_zero_le hs.1
      have htM : t < M.length := by have := hs.2; omega
      have hrS : r < S.length := by have := hr.2; omega
      have htn : t < N.length := by rw [hNl.out]; exact htM
      have hrow := hid (algB_row ha.out htM)
      clear hr hs
      have hs2 := hid (show stAt N start X (j + 1) = cell N t r by rw [hs1.out, hr', ht']; simp)
      clear hs1
      rw [hs2.out] at hz
      have hca := hid (show (0 : Int) ≤ (r : Int) ∧ (r : Int) < S.length ∧ (0 : Int) ≤ (t : Int) ∧ (t : Int) < M.length by omega)
      have hc := hid (stepC_le hp.out hca.out.1 hca.out.2.1 hca.out.2.2.1 hca.out.2.2.2 hz.1 hz.2)
      have hsum2 := hid (show sumA M S N start X (j + 1) = sumA M S N start X j + stepC M S r t (cell N t r) by rw [hsum.out, hs2.out, hr', ht'])
      clear hsum
      rw [hr'] at hc3
      rw [ht']
      replace hr' := hid hr'
      replace ht' := hid ht'
      replace hz := hid hz
      obtain ⟨b5, o5, d5, m5, rfl, hc5, hr5, _⟩ := hN.at (w' := wr) htn
      rw [hrow.out] at hr5 hc5
      obtain ⟨b6, o6, rfl, hc6⟩ := hr5.at (w' := wr) (k := r) (by rw [hrow.out]; exact hrS)
      have hc6' : wr.cell? ⟨b6, o6 + r, none⟩ = some (.int .i64 (cell N t r)) := hc6
      clear hc6
      generalize hg : statesTo N start X j = st at *
      replace hg := hid hg
      generalize hgs : sumA M S N start X j = sm at *
      replace hgs := hid hgs
      generalize hgc : cell N t r = to_ at *
      replace hgc := hid hgc
      go_wp2_with fail
      refine (cost_any (w0 := wr) (hM'.ext (w' := wr)) (hS'.ext (w' := wr)) hp.out hca.out.1 hca.out.2.1 hca.out.2.2.1 hca.out.2.2.2 hz.out.1 hz.out.2).mono ?_
      rintro e wq ⟨rfl, hbq⟩
      replace hown := hown.ext (w' := wq)
      have hb2 : Below (w.heap.size + 1) W wq := hb0.trans (hbq.below.mono (by have := hb0.size; omega))
      have hB : w.heap.size + 1 ≤ wq.heap.size := by have := hb2.size; omega
      go_wp2_with (at_builtin; refine wpList_append1 rfl _ _ _ rfl elemInt rfl hown hB rfl rfl (by omega) (by omega) ?_; intro v1 w1 ho hb1)
      go_roundw
      case rel =>
        refine ⟨j + 1, by omega, by go_num, by rw [hs2.out], ?_, by rw [hsucc.out, hs2.out]; exact own_snoc ho rfl, hb2.trans hb1⟩
        rw [hsum2.out]
        exact congrArg (Value.int .i64) (IntWalk.wrap64_in (sm + stepC M S r t to_) (by have := hsb.out; have := hc.out; omega))
      case measure => simp [intOf]; omega
    · go_wp2
      go_ret2
      have : j = X.length := by omega
      subst this
      exact ⟨_, _, rfl, hown.mono (by omega), hb⟩

set_option maxHeartbeats 1600000 in
set_option maxRecDepth 100000 in
theorem l8Cost_any {v1 v2 v4 v3 : Value} {M S N : List (List Int)} {start : Int} {X : List Int} {w0 w : World} [Ext w0 w] (hM : IsRows w0 v1 M) (hS : IsRows w0 v2 S) (hN : IsRows w0 v4 N) (hx : IsInts w0 v3 X) (hst : startB M S start X = true) (ha : algB M S N = true) :
    Calls Try.prog 47 #[.agg #[v1, v2], v4, .int .i64 start, v3] w fun e w' => e = .returned (.int .i64 (sumA M S N start X X.length)) ∧ Ext w w' := by
  have hM' := hM
  have hS' := hS
  have hN' := hN
  have hx' := hx
  obtain ⟨a1, c1, rfl, l1⟩ := hM.form
  obtain ⟨a2, c2, rfl, l2⟩ := hS.form
  obtain ⟨a4, c4, rfl, l4⟩ := hN.form
  obtain ⟨a3, c3, rfl, l3⟩ := hx.form
  have hall := hid (statesTo_i64 hst ha (Nat.le_refl _) (by omega))
  have hlen := hid (statesTo_length N start X X.length)
  have hok := hid (okTo_statesTo hst ha (Nat.le_refl _))
  have hsum := hid (sumTo_statesTo (M := M) (S := S) (N := N) (s := start) (X := X) (Nat.le_refl X.length))
  replace hst := hid hst
  replace ha := hid ha
  go_enter Try.func47, Try.ntmps47
  go_upto_region 1 with fail
  generalize hW : w.alloc (.cells #[.slice a1 M.length c1, .slice a2 S.length c2] 26) = W
  have eW : Ext w W := hW ▸ inferInstance
  have e0 : Ext w0 W := Ext.trans ‹Ext w0 w› eW
  have x0 : W.cell? ⟨w.heap.size, 0, none⟩ = some (.slice a1 M.length c1) := by subst hW; go_simp
  have x1 : W.cell? ⟨w.heap.size, 1, none⟩ = some (.slice a2 S.length c2) := by subst hW; go_simp
  clear hW
  generalize hg : statesTo N start X X.length = st at *
  replace hg := hid hg
  go_region_with (first
    | (go_at_call 50; refine (l8States_any (w0 := w0) hN' hx' hst.out ha.out).mono ?_; rw [hg.out]; rintro e wq ⟨qd, qm, rfl, qown, hq⟩; have e1 : Ext W wq := Ext.trans inferInstance hq; have y0 := e1.cell x0; have y1 := e1.cell x1; have e2 : Ext w0 wq := Ext.trans e0 e1; have st' := qown.reads (by rw [hlen.out]; exact l3) hall.out)
    | (go_at_call 53; refine (l8Sum_any (w0 := wq) (hM'.ext (w' := wq)) (hS'.ext (w' := wq)) (hx'.ext (w' := wq)) st' hst.out hlen.out (by rw [hlen.out]; exact hok.out)).mono ?_; rw [hlen.out, hsum.out]; rintro e wq2 ⟨rfl, hq2⟩))
  all_goals
    go_wp2_with fail
    go_ret
    exact ⟨rfl, Ext.trans eW (Ext.trans e1 hq2)⟩

end Go.Proofs.Ytkniohcmhdgbeaa
