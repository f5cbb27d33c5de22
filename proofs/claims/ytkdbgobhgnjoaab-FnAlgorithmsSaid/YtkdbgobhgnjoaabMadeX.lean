/- GreedyAlgorithm and LazyAlgorithm of the reference and of the program. Written by madex.py. -/
import Derived.Test.YtkdbgobhgnjoaabMade
namespace Go.Proofs.Ytkdbgobhgnjoaab
open Go.RowKit

def gaR (M S : List (List Int)) (lz : Bool) : List (List Int) := if probB M S = true then madeL M S lz else []
theorem gaR_false {M S : List (List Int)} {lz : Bool} (h : probB M S = false) : gaR M S lz = [] := by simp [gaR, h]
theorem gaR_true {M S : List (List Int)} {lz : Bool} (h : probB M S = true) : gaR M S lz = madeL M S lz := by simp [gaR, h]
theorem madeL_length (M S : List (List Int)) (lz : Bool) : (madeL M S lz).length = M.length := byTo_length _ _ _
theorem madeL_row {M S : List (List Int)} {lz : Bool} {x : List Int} (h : x ∈ madeL M S lz) : ∃ s, s < M.length ∧ x = byRow (madeAt M S lz) s S.length := by
  obtain ⟨s, hs, rfl⟩ := List.mem_map.1 h
  exact ⟨s, List.mem_range.1 hs, rfl⟩
theorem madeAt_in {M S : List (List Int)} (hp : probB M S = true) {lz : Bool} {s r : Nat} (hs : s < M.length) (hr : r < S.length) : 0 ≤ madeAt M S lz s r ∧ madeAt M S lz s r < M.length := by
  unfold madeAt
  split
  · omega
  · have := arg_in hp (c := stepC M S r s) hr
    have h2 : greedyAt M S s r = (servedL (row S r)).foldl (argStep (stepC M S r s)) (-1) := by rw [greedyAt, Int.toNat_natCast]
    rw [h2]
    have h3 := this.1
    have h4 := this.2.1
    omega
theorem madeL_facts {M S : List (List Int)} (hp : probB M S = true) (lz : Bool) : ShortRows (madeL M S lz).length ∧ (∀ r ∈ madeL M S lz, Short r.length) ∧ ∀ r ∈ madeL M S lz, ∀ x ∈ r, I64 x := by
  have hn := probB_len hp
  refine ⟨by rw [madeL_length]; unfold ShortRows; omega, fun x hx => ?_, fun x hx y hy => ?_⟩
  all_goals obtain ⟨s, hs, rfl⟩ := madeL_row hx
  · rw [byRow_length]; unfold Short; omega
  · obtain ⟨r, hr, rfl⟩ := List.mem_map.1 hy
    have := madeAt_in hp (lz := lz) hs (List.mem_range.1 hr)
    unfold I64; omega
theorem gaR_len {M S : List (List Int)} {lz : Bool} : (gaR M S lz).length ≤ 2000000 ∧ sumLen (gaR M S lz) ≤ 2000000 := by
  unfold gaR
  split
  · rename_i h
    have hn := probB_len h
    have h1 := madeL_length M S lz
    have h2 := sumLen_le (n := 4) (l := madeL M S lz) (fun x hx => by
      obtain ⟨s, hs, rfl⟩ := madeL_row hx
      rw [byRow_length]; omega)
    rw [h1] at h2 ⊢
    omega
  · simp [sumLen]

theorem greedy_call (xa : Array Value) (W : World) : (callFunc 74 xa).run Try.prog W = .ok (.enter 74 xa) W := by kernel_rfl
theorem greedy_all {v1 v2 : Value} {M S : List (List Int)} {w0 w : World} [Ext w0 w] (hM : IsRows w0 v1 M) (hS : IsRows w0 v2 S) (hp : probB M S = true) :
    ∀ (W : World), Ext w W → ∀ s r : Nat, s < M.length → r < S.length → Calls Try.prog 74 (#[.agg #[v1, v2]] ++ (#[.int .i64 s, .int .i64 r] ++ #[])) W fun e w' => e = .returned (.int .i64 (madeAt M S false s r)) ∧ Ext W w' := by
  intro W hW s r hs hr
  have e0 : Ext w0 W := Ext.trans ‹Ext w0 w› hW
  rw [show madeAt M S false s r = greedyAt M S s r from if_neg (fun h => by cases h.1)]
  exact greedy_any (w0 := w0) hM hS hp hs hr

set_option maxHeartbeats 800000 in
theorem lazy1_any {v1 v2 : Value} {M S : List (List Int)} {s r B : Nat} {w0 w : World} [Ext w0 w] (hM : IsRows w0 v1 M) (hS : IsRows w0 v2 S) (hp : probB M S = true) (hs : s < M.length) (hr : r < S.length)
    (h1 : w.cell? ⟨B, 0, none⟩ = some v1) (h2 : w.cell? ⟨B, 1, none⟩ = some v2) :
    Calls Try.prog 84 #[.int .i64 s, .int .i64 r, .pointer (some ⟨B, 0, none⟩)] w fun e w' => e = .returned (.int .i64 (madeAt M S true s r)) ∧ Ext w w' := by
  have hM' := hM
  have hS' := hS
  obtain ⟨a1, c1, rfl, l1⟩ := hM.form
  obtain ⟨a2, c2, rfl, l2⟩ := hS.form
  have hrow := hid (probB_row hp hr).1
  replace hp := hid hp
  obtain ⟨b7, o7, d7, m7, rfl, hc7, hr7, _⟩ := hS.at (w' := w) hr
  rw [hrow.out] at hr7 hc7
  obtain ⟨b8, o8, rfl, hc8⟩ := hr7.at (w' := w) (k := s) (by rw [hrow.out]; exact hs)
  have hc8' : w.cell? ⟨b8, o8 + s, none⟩ = some (.int .i64 (cell S r s)) := hc8
  clear hc8
  by_cases hge : 0 ≤ cell S r s
  · have hge' : decide (0 ≤ cell S r s) = true := by simpa using hge
    have hv := hid (show madeAt M S true s r = (s : Int) from if_pos ⟨rfl, hge⟩)
    go_enter Try.func84, Try.ntmps84
    go_wp2
    go_ret
    exact ⟨ret_int hv.out.symm, Ext.refl _⟩
  · have hge' : decide (0 ≤ cell S r s) = false := by simpa using hge
    have hv := hid (show madeAt M S true s r = greedyAt M S s r from if_neg (fun h => hge h.2))
    go_enter Try.func84, Try.ntmps84
    go_wp2_with fail
    refine (greedy_any (w0 := w0) hM' hS' hp.out hs hr).mono ?_
    rintro e w1 ⟨rfl, hb⟩
    go_wp2_with fail
    go_ret
    exact ⟨ret_int hv.out.symm, hb⟩
theorem lazy1_call (xa : Array Value) (W : World) : (callFunc 84 xa).run Try.prog W = .ok (.enter 84 xa) W := by kernel_rfl
theorem lazy1_all {v1 v2 : Value} {M S : List (List Int)} {B : Nat} {w0 w : World} [Ext w0 w] (hM : IsRows w0 v1 M) (hS : IsRows w0 v2 S) (hp : probB M S = true)
    (h1 : w.cell? ⟨B, 0, none⟩ = some v1) (h2 : w.cell? ⟨B, 1, none⟩ = some v2) :
    ∀ (W : World), Ext w W → ∀ s r : Nat, s < M.length → r < S.length → Calls Try.prog 84 (#[] ++ (#[.int .i64 s, .int .i64 r] ++ #[.pointer (some ⟨B, 0, none⟩)])) W fun e w' => e = .returned (.int .i64 (madeAt M S true s r)) ∧ Ext W w' := by
  intro W hW s r hs hr
  have e0 : Ext w0 W := Ext.trans ‹Ext w0 w› hW
  exact lazy1_any (w0 := w0) hM hS hp hs hr (hW.cell h1) (hW.cell h2)

set_option maxHeartbeats 800000 in
set_option maxRecDepth 100000 in
theorem specGreedy_any {v : Value} {M S : List (List Int)} {w0 w : World} [Ext w0 w] (hp : IsProb w0 v M S) :
    Calls Try.prog 35 #[v] w fun e w' => ∃ d0 m0, e = .returned (.tuple #[.slice d0 (gaR M S false).length m0, .bool (probB M S)]) ∧ IsRows w' (.slice d0 (gaR M S false).length m0) (gaR M S false) ∧ Ext w w' := by
  have hp' := hp
  obtain ⟨v1, v2, rfl, hM, hS⟩ := hp
  have hM' := hM
  have hS' := hS
  obtain ⟨a1, c1, rfl, l1⟩ := hM.form
  obtain ⟨a2, c2, rfl, l2⟩ := hS.form
  cases hB0 : probB M S with
  | false =>
    have hr := hid (hB0)
    have hz0 := hid (gaR_false (lz := false) hr.out)
    replace hB0 := hid hB0
    go_enter Try.func35, Try.ntmps35
    go_wp2_with fail
    refine (l8Good_any (w0 := w0) hp').mono ?_; rw [hB0.out]; rintro e w1 ⟨rfl, hb1⟩
    have x0 : w1.cell? ⟨w.heap.size, 0, none⟩ = some (.slice a1 M.length c1) := hb1.cell (by go_simp)
    have x1 : w1.cell? ⟨w.heap.size, 1, none⟩ = some (.slice a2 S.length c2) := hb1.cell (by go_simp)
    have e1 : Ext w w1 := Ext.trans inferInstance hb1
    have e0 : Ext w0 w1 := Ext.trans ‹Ext w0 w› e1
    clear hb1
    go_wp2_with fail
    go_ret2
    rw [hz0.out]
    try rw [hr.out]
    exact ⟨_, _, rfl, isRows_zero _ _ _, Ext.trans e1 inferInstance⟩
  | true =>
    have hC0 := hid hB0
    replace hB0 := hid hB0
    have hok := hid (hC0.out)
    have hv0 := hid (gaR_true (lz := false) hok.out)
    go_enter Try.func35, Try.ntmps35
    go_wp2_with fail
    refine (l8Good_any (w0 := w0) hp').mono ?_; rw [hB0.out]; rintro e w1 ⟨rfl, hb1⟩
    have x0 : w1.cell? ⟨w.heap.size, 0, none⟩ = some (.slice a1 M.length c1) := hb1.cell (by go_simp)
    have x1 : w1.cell? ⟨w.heap.size, 1, none⟩ = some (.slice a2 S.length c2) := hb1.cell (by go_simp)
    have e1 : Ext w w1 := Ext.trans inferInstance hb1
    have e0 : Ext w0 w1 := Ext.trans ‹Ext w0 w› e1
    clear hb1
    have hf := hid (madeL_facts hC0.out false)
    go_wp2_with fail
    refine (l8Made_any (w0 := w0) hM' hS' hC0.out).mono ?_
    rintro e w3 ⟨d, m, vs, rfl, hl, own, hb⟩
    have hst := (Own.nilr own).readsAll hl hf.out.1 hf.out.2.1 hf.out.2.2
    rw [← hv0.out] at hst ⊢
    go_wp2_with fail
    go_ret2
    exact ⟨_, _, rfl, hst, Ext.trans e1 hb⟩

set_option maxHeartbeats 800000 in
set_option maxRecDepth 100000 in
theorem implGreedy_any {v : Value} {M S : List (List Int)} {w0 w : World} [Ext w0 w] (hp : IsProb w0 v M S) :
    Calls Try.prog 34 #[v] w fun e w' => ∃ d0 m0 vs0, e = .returned (.tuple #[.slice d0 (gaR M S false).length m0, .bool (probB M S)]) ∧ vs0.length = (gaR M S false).length ∧ Own w' w.heap.size (rowsOf 29 3 (.slice d0 (gaR M S false).length m0) vs0 (gaR M S false)) ∧ Ext w w' := by
  have hp' := hp
  obtain ⟨v1, v2, rfl, hM, hS⟩ := hp
  have hM' := hM
  have hS' := hS
  obtain ⟨a1, c1, rfl, l1⟩ := hM.form
  obtain ⟨a2, c2, rfl, l2⟩ := hS.form
  cases hB0 : probB M S with
  | false =>
    have hr := hid (hB0)
    have hz0 := hid (gaR_false (lz := false) hr.out)
    replace hB0 := hid hB0
    go_enter Try.func34, Try.ntmps34
    go_wp2_with fail
    refine (IsProblem_any (w0 := w0) hp').mono ?_; rw [hB0.out]; rintro e w1 ⟨rfl, hb1⟩
    have x0 : w1.cell? ⟨w.heap.size, 0, none⟩ = some (.slice a1 M.length c1) := hb1.cell (by go_simp)
    have x1 : w1.cell? ⟨w.heap.size, 1, none⟩ = some (.slice a2 S.length c2) := hb1.cell (by go_simp)
    have e1 : Ext w w1 := Ext.trans inferInstance hb1
    have e0 : Ext w0 w1 := Ext.trans ‹Ext w0 w› e1
    clear hb1
    go_wp2_with fail
    go_ret2
    rw [hz0.out]
    try rw [hr.out]
    exact ⟨_, _, [], rfl, rfl, own_nils_r _ _, Ext.trans e1 inferInstance⟩
  | true =>
    have hC0 := hid hB0
    replace hB0 := hid hB0
    have hok := hid (hC0.out)
    have hv0 := hid (gaR_true (lz := false) hok.out)
    go_enter Try.func34, Try.ntmps34
    go_wp2_with fail
    refine (IsProblem_any (w0 := w0) hp').mono ?_; rw [hB0.out]; rintro e w1 ⟨rfl, hb1⟩
    have x0 : w1.cell? ⟨w.heap.size, 0, none⟩ = some (.slice a1 M.length c1) := hb1.cell (by go_simp)
    have x1 : w1.cell? ⟨w.heap.size, 1, none⟩ = some (.slice a2 S.length c2) := hb1.cell (by go_simp)
    have e1 : Ext w w1 := Ext.trans inferInstance hb1
    have e0 : Ext w0 w1 := Ext.trans ‹Ext w0 w› e1
    clear hb1
    go_wp2_with fail
    refine (algorithmBy_any (w0 := w0) (f := madeAt M S false) hM' hS' hC0.out 74 #[.agg #[.slice a1 M.length c1, .slice a2 S.length c2]] #[] greedy_call (greedy_all (w0 := w0) hM' hS' hC0.out)).mono ?_
    rw [show byTo (madeAt M S false) S.length M.length = madeL M S false from rfl, ← hv0.out]
    rintro e w3 ⟨d, m, vs, rfl, hl, own, hb⟩
    go_wp2_with fail
    go_ret2
    exact ⟨_, _, _, rfl, hl, own.mono e1.size, Ext.trans e1 hb⟩

set_option maxHeartbeats 800000 in
set_option maxRecDepth 100000 in
theorem specLazy_any {v : Value} {M S : List (List Int)} {w0 w : World} [Ext w0 w] (hp : IsProb w0 v M S) :
    Calls Try.prog 38 #[v] w fun e w' => ∃ d0 m0, e = .returned (.tuple #[.slice d0 (gaR M S true).length m0, .bool (probB M S)]) ∧ IsRows w' (.slice d0 (gaR M S true).length m0) (gaR M S true) ∧ Ext w w' := by
  have hp' := hp
  obtain ⟨v1, v2, rfl, hM, hS⟩ := hp
  have hM' := hM
  have hS' := hS
  obtain ⟨a1, c1, rfl, l1⟩ := hM.form
  obtain ⟨a2, c2, rfl, l2⟩ := hS.form
  cases hB0 : probB M S with
  | false =>
    have hr := hid (hB0)
    have hz0 := hid (gaR_false (lz := true) hr.out)
    replace hB0 := hid hB0
    go_enter Try.func38, Try.ntmps38
    go_wp2_with fail
    refine (l8Good_any (w0 := w0) hp').mono ?_; rw [hB0.out]; rintro e w1 ⟨rfl, hb1⟩
    have x0 : w1.cell? ⟨w.heap.size, 0, none⟩ = some (.slice a1 M.length c1) := hb1.cell (by go_simp)
    have x1 : w1.cell? ⟨w.heap.size, 1, none⟩ = some (.slice a2 S.length c2) := hb1.cell (by go_simp)
    have e1 : Ext w w1 := Ext.trans inferInstance hb1
    have e0 : Ext w0 w1 := Ext.trans ‹Ext w0 w› e1
    clear hb1
    go_wp2_with fail
    go_ret2
    rw [hz0.out]
    try rw [hr.out]
    exact ⟨_, _, rfl, isRows_zero _ _ _, Ext.trans e1 inferInstance⟩
  | true =>
    have hC0 := hid hB0
    replace hB0 := hid hB0
    have hok := hid (hC0.out)
    have hv0 := hid (gaR_true (lz := true) hok.out)
    go_enter Try.func38, Try.ntmps38
    go_wp2_with fail
    refine (l8Good_any (w0 := w0) hp').mono ?_; rw [hB0.out]; rintro e w1 ⟨rfl, hb1⟩
    have x0 : w1.cell? ⟨w.heap.size, 0, none⟩ = some (.slice a1 M.length c1) := hb1.cell (by go_simp)
    have x1 : w1.cell? ⟨w.heap.size, 1, none⟩ = some (.slice a2 S.length c2) := hb1.cell (by go_simp)
    have e1 : Ext w w1 := Ext.trans inferInstance hb1
    have e0 : Ext w0 w1 := Ext.trans ‹Ext w0 w› e1
    clear hb1
    have hf := hid (madeL_facts hC0.out true)
    go_wp2_with fail
    refine (l8Made_any (w0 := w0) hM' hS' hC0.out).mono ?_
    rintro e w3 ⟨d, m, vs, rfl, hl, own, hb⟩
    have hst := (Own.nilr own).readsAll hl hf.out.1 hf.out.2.1 hf.out.2.2
    rw [← hv0.out] at hst ⊢
    go_wp2_with fail
    go_ret2
    exact ⟨_, _, rfl, hst, Ext.trans e1 hb⟩

set_option maxHeartbeats 800000 in
set_option maxRecDepth 100000 in
theorem implLazy_any {v : Value} {M S : List (List Int)} {w0 w : World} [Ext w0 w] (hp : IsProb w0 v M S) :
    Calls Try.prog 37 #[v] w fun e w' => ∃ d0 m0 vs0, e = .returned (.tuple #[.slice d0 (gaR M S true).length m0, .bool (probB M S)]) ∧ vs0.length = (gaR M S true).length ∧ Own w' w.heap.size (rowsOf 29 3 (.slice d0 (gaR M S true).length m0) vs0 (gaR M S true)) ∧ Ext w w' := by
  have hp' := hp
  obtain ⟨v1, v2, rfl, hM, hS⟩ := hp
  have hM' := hM
  have hS' := hS
  obtain ⟨a1, c1, rfl, l1⟩ := hM.form
  obtain ⟨a2, c2, rfl, l2⟩ := hS.form
  cases hB0 : probB M S with
  | false =>
    have hr := hid (hB0)
    have hz0 := hid (gaR_false (lz := true) hr.out)
    replace hB0 := hid hB0
    go_enter Try.func37, Try.ntmps37
    go_wp2_with fail
    refine (IsProblem_any (w0 := w0) hp').mono ?_; rw [hB0.out]; rintro e w1 ⟨rfl, hb1⟩
    have x0 : w1.cell? ⟨w.heap.size, 0, none⟩ = some (.slice a1 M.length c1) := hb1.cell (by go_simp)
    have x1 : w1.cell? ⟨w.heap.size, 1, none⟩ = some (.slice a2 S.length c2) := hb1.cell (by go_simp)
    have e1 : Ext w w1 := Ext.trans inferInstance hb1
    have e0 : Ext w0 w1 := Ext.trans ‹Ext w0 w› e1
    clear hb1
    go_wp2_with fail
    go_ret2
    rw [hz0.out]
    try rw [hr.out]
    exact ⟨_, _, [], rfl, rfl, own_nils_r _ _, Ext.trans e1 inferInstance⟩
  | true =>
    have hC0 := hid hB0
    replace hB0 := hid hB0
    have hok := hid (hC0.out)
    have hv0 := hid (gaR_true (lz := true) hok.out)
    go_enter Try.func37, Try.ntmps37
    go_wp2_with fail
    refine (IsProblem_any (w0 := w0) hp').mono ?_; rw [hB0.out]; rintro e w1 ⟨rfl, hb1⟩
    have x0 : w1.cell? ⟨w.heap.size, 0, none⟩ = some (.slice a1 M.length c1) := hb1.cell (by go_simp)
    have x1 : w1.cell? ⟨w.heap.size, 1, none⟩ = some (.slice a2 S.length c2) := hb1.cell (by go_simp)
    have e1 : Ext w w1 := Ext.trans inferInstance hb1
    have e0 : Ext w0 w1 := Ext.trans ‹Ext w0 w› e1
    clear hb1
    go_wp2_with fail
    refine (algorithmBy_any (w0 := w0) (f := madeAt M S true) hM' hS' hC0.out 84 #[] #[.pointer (some ⟨w.heap.size, 0, none⟩)] lazy1_call (lazy1_all (w0 := w0) hM' hS' hC0.out x0 x1)).mono ?_
    rw [show byTo (madeAt M S true) S.length M.length = madeL M S true from rfl, ← hv0.out]
    rintro e w3 ⟨d, m, vs, rfl, hl, own, hb⟩
    go_wp2_with fail
    go_ret2
    exact ⟨_, _, _, rfl, hl, own.mono e1.size, Ext.trans e1 hb⟩

end Go.Proofs.Ytkdbgobhgnjoaab
