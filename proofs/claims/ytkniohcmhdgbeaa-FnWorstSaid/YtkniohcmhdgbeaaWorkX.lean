/- WorkFunction and LeastCost of the reference and of the program. Written by works.py. -/
import Derived.Test.YtkniohcmhdgbeaaWorkW
namespace Go.Proofs.Ytkniohcmhdgbeaa
open Go.RowKit

def wfR (M S : List (List Int)) (s : Int) (X : List Int) : List Int := if startB M S s X = true then workL M S (row M s.toNat) X else []
def lcR (M S : List (List Int)) (s : Int) (X : List Int) : Int := if startB M S s X = true then optL M S (row M s.toNat) X else 0
theorem wfR_false {M S : List (List Int)} {s : Int} {X : List Int} (h : startB M S s X = false) : wfR M S s X = [] := by simp [wfR, h]
theorem wfR_true {M S : List (List Int)} {s : Int} {X : List Int} (h : startB M S s X = true) : wfR M S s X = workL M S (row M s.toNat) X := by simp [wfR, h]
theorem lcR_false {M S : List (List Int)} {s : Int} {X : List Int} (h : startB M S s X = false) : lcR M S s X = 0 := by simp [lcR, h]
theorem lcR_true {M S : List (List Int)} {s : Int} {X : List Int} (h : startB M S s X = true) : lcR M S s X = optL M S (row M s.toNat) X := by simp [lcR, h]
theorem wfR_len {M S : List (List Int)} {s : Int} {X : List Int} : (wfR M S s X).length ≤ 4000000 := by
  unfold wfR
  split
  · rename_i h
    have h1 := (start_workL h).1
    have h2 := probB_len (startB_prob h)
    omega
  · simp

set_option maxHeartbeats 800000 in
set_option maxRecDepth 100000 in
theorem specWF_any {v vX : Value} {M S : List (List Int)} {X : List Int} {s : Int} {w0 w : World} [Ext w0 w] (hp : IsProb w0 v M S) (_hs : I64 s) (hX : IsInts w0 vX X) :
    Calls Try.prog 21 #[v, .int .i64 s, vX] w fun e w' => ∃ d0 m0, e = .returned (.tuple #[.slice d0 (wfR M S s X).length m0, .bool (startB M S s X)]) ∧ IsInts w' (.slice d0 (wfR M S s X).length m0) (wfR M S s X) ∧ Ext w w' := by
  have hp' := hp
  obtain ⟨v1, v2, rfl, hM, hS⟩ := hp
  have hM' := hM
  have hS' := hS
  obtain ⟨a1, c1, rfl, l1⟩ := hM.form
  obtain ⟨a2, c2, rfl, l2⟩ := hS.form
  have hX' := hX
  obtain ⟨aX, cX, rfl, lX⟩ := hX.form
  cases hB0 : startB M S s X with
  | false =>
    have hr := hid (hB0)
    have hz0 := hid (wfR_false hr.out)
    replace hB0 := hid hB0
    go_enter Try.func21, Try.ntmps21
    go_wp2_with fail
    refine (l8Takes_any (w0 := w0) hp' hX').mono ?_; rw [hB0.out]; rintro e w1 ⟨rfl, hb1⟩
    have x0 : w1.cell? ⟨w.heap.size, 0, none⟩ = some (.slice a1 M.length c1) := hb1.cell (by go_simp)
    have x1 : w1.cell? ⟨w.heap.size, 1, none⟩ = some (.slice a2 S.length c2) := hb1.cell (by go_simp)
    have e1 : Ext w w1 := Ext.trans inferInstance hb1
    have e0 : Ext w0 w1 := Ext.trans ‹Ext w0 w› e1
    clear hb1
    go_wp2_with fail
    go_ret2
    rw [hz0.out]
    try rw [hr.out]
    exact ⟨_, _, rfl, isInts_zero _ _ _, Ext.trans e1 inferInstance⟩
  | true =>
    have hC0 := hid hB0
    replace hB0 := hid hB0
    have hok := hid (hC0.out)
    have hv0 := hid (wfR_true hok.out)
    go_enter Try.func21, Try.ntmps21
    go_wp2_with fail
    refine (l8Takes_any (w0 := w0) hp' hX').mono ?_; rw [hB0.out]; rintro e w1 ⟨rfl, hb1⟩
    have x0 : w1.cell? ⟨w.heap.size, 0, none⟩ = some (.slice a1 M.length c1) := hb1.cell (by go_simp)
    have x1 : w1.cell? ⟨w.heap.size, 1, none⟩ = some (.slice a2 S.length c2) := hb1.cell (by go_simp)
    have e1 : Ext w w1 := Ext.trans inferInstance hb1
    have e0 : Ext w0 w1 := Ext.trans ‹Ext w0 w› e1
    clear hb1
    have hok2 := hid (start_workL hC0.out)
    have hn := hid (probB_len (startB_prob hC0.out))
    go_wp2_with fail
    refine (l8Work_any (w0 := w0) hM' hS' hX' hC0.out).mono ?_
    rintro e w3 ⟨d, m, rfl, own, hb⟩
    have hst := own.reads (by rw [hok2.out.1]; have := hn.out; unfold Short; omega) (wOk_i64 hok2.out (by omega))
    rw [← hv0.out] at hst own ⊢
    go_wp2_with fail
    go_ret2
    exact ⟨_, _, rfl, hst, Ext.trans e1 hb⟩

set_option maxHeartbeats 800000 in
set_option maxRecDepth 100000 in
theorem implWF_any {v vX : Value} {M S : List (List Int)} {X : List Int} {s : Int} {w0 w : World} [Ext w0 w] (hp : IsProb w0 v M S) (_hs : I64 s) (hX : IsInts w0 vX X) :
    Calls Try.prog 20 #[v, .int .i64 s, vX] w fun e w' => ∃ d0 m0, e = .returned (.tuple #[.slice d0 (wfR M S s X).length m0, .bool (startB M S s X)]) ∧ Own w' w.heap.size ([intRowOf 3 (.slice d0 (wfR M S s X).length m0) (wfR M S s X)]) ∧ Ext w w' := by
  have hp' := hp
  obtain ⟨v1, v2, rfl, hM, hS⟩ := hp
  have hM' := hM
  have hS' := hS
  obtain ⟨a1, c1, rfl, l1⟩ := hM.form
  obtain ⟨a2, c2, rfl, l2⟩ := hS.form
  have hX' := hX
  obtain ⟨aX, cX, rfl, lX⟩ := hX.form
  cases hB0 : startB M S s X with
  | false =>
    have hr := hid (hB0)
    have hz0 := hid (wfR_false hr.out)
    replace hB0 := hid hB0
    go_enter Try.func20, Try.ntmps20
    go_wp2_with fail
    refine (isStarted_any (w0 := w0) hp' hX').mono ?_; rw [hB0.out]; rintro e w1 ⟨rfl, hb1⟩
    have x0 : w1.cell? ⟨w.heap.size, 0, none⟩ = some (.slice a1 M.length c1) := hb1.cell (by go_simp)
    have x1 : w1.cell? ⟨w.heap.size, 1, none⟩ = some (.slice a2 S.length c2) := hb1.cell (by go_simp)
    have e1 : Ext w w1 := Ext.trans inferInstance hb1
    have e0 : Ext w0 w1 := Ext.trans ‹Ext w0 w› e1
    clear hb1
    go_wp2_with fail
    go_ret2
    rw [hz0.out]
    try rw [hr.out]
    exact ⟨_, _, rfl, own_nils_i _ _, Ext.trans e1 inferInstance⟩
  | true =>
    have hC0 := hid hB0
    replace hB0 := hid hB0
    have hok := hid (hC0.out)
    have hv0 := hid (wfR_true hok.out)
    go_enter Try.func20, Try.ntmps20
    go_wp2_with fail
    refine (isStarted_any (w0 := w0) hp' hX').mono ?_; rw [hB0.out]; rintro e w1 ⟨rfl, hb1⟩
    have x0 : w1.cell? ⟨w.heap.size, 0, none⟩ = some (.slice a1 M.length c1) := hb1.cell (by go_simp)
    have x1 : w1.cell? ⟨w.heap.size, 1, none⟩ = some (.slice a2 S.length c2) := hb1.cell (by go_simp)
    have e1 : Ext w w1 := Ext.trans inferInstance hb1
    have e0 : Ext w0 w1 := Ext.trans ‹Ext w0 w› e1
    clear hb1
    have hok2 := hid (start_workL hC0.out)
    have hn := hid (probB_len (startB_prob hC0.out))
    go_wp2_with fail
    refine (work_any (w0 := w0) hM' hS' hX' hC0.out).mono ?_
    rintro e w3 ⟨d, m, rfl, own, hb⟩
    rw [← hv0.out] at own ⊢
    go_wp2_with fail
    go_ret2
    exact ⟨_, _, rfl, own.mono e1.size, Ext.trans e1 hb⟩

set_option maxHeartbeats 800000 in
set_option maxRecDepth 100000 in
theorem specLC_any {v vX : Value} {M S : List (List Int)} {X : List Int} {s : Int} {w0 w : World} [Ext w0 w] (hp : IsProb w0 v M S) (_hs : I64 s) (hX : IsInts w0 vX X) :
    Calls Try.prog 17 #[v, .int .i64 s, vX] w fun e w' => e = .returned (.tuple #[.int .i64 (lcR M S s X), .bool (startB M S s X)]) ∧ Ext w w' := by
  have hp' := hp
  obtain ⟨v1, v2, rfl, hM, hS⟩ := hp
  have hM' := hM
  have hS' := hS
  obtain ⟨a1, c1, rfl, l1⟩ := hM.form
  obtain ⟨a2, c2, rfl, l2⟩ := hS.form
  have hX' := hX
  obtain ⟨aX, cX, rfl, lX⟩ := hX.form
  cases hB0 : startB M S s X with
  | false =>
    have hr := hid (hB0)
    have hz0 := hid (lcR_false hr.out)
    replace hB0 := hid hB0
    go_enter Try.func17, Try.ntmps17
    go_wp2_with fail
    refine (l8Takes_any (w0 := w0) hp' hX').mono ?_; rw [hB0.out]; rintro e w1 ⟨rfl, hb1⟩
    have x0 : w1.cell? ⟨w.heap.size, 0, none⟩ = some (.slice a1 M.length c1) := hb1.cell (by go_simp)
    have x1 : w1.cell? ⟨w.heap.size, 1, none⟩ = some (.slice a2 S.length c2) := hb1.cell (by go_simp)
    have e1 : Ext w w1 := Ext.trans inferInstance hb1
    have e0 : Ext w0 w1 := Ext.trans ‹Ext w0 w› e1
    clear hb1
    go_wp2_with fail
    go_ret2
    rw [hz0.out]
    try rw [hr.out]
    exact ⟨rfl, Ext.trans e1 inferInstance⟩
  | true =>
    have hC0 := hid hB0
    replace hB0 := hid hB0
    have hok := hid (hC0.out)
    have hv0 := hid (lcR_true hok.out)
    go_enter Try.func17, Try.ntmps17
    go_wp2_with fail
    refine (l8Takes_any (w0 := w0) hp' hX').mono ?_; rw [hB0.out]; rintro e w1 ⟨rfl, hb1⟩
    have x0 : w1.cell? ⟨w.heap.size, 0, none⟩ = some (.slice a1 M.length c1) := hb1.cell (by go_simp)
    have x1 : w1.cell? ⟨w.heap.size, 1, none⟩ = some (.slice a2 S.length c2) := hb1.cell (by go_simp)
    have e1 : Ext w w1 := Ext.trans inferInstance hb1
    have e0 : Ext w0 w1 := Ext.trans ‹Ext w0 w› e1
    clear hb1
    go_wp2_with fail
    refine (l8Opt_any (w0 := w0) hM' hS' hX' hC0.out).mono ?_
    rw [← hv0.out]
    rintro e w3 ⟨rfl, hb⟩
    go_wp2_with fail
    go_ret2
    exact ⟨rfl, Ext.trans e1 hb⟩

set_option maxHeartbeats 800000 in
set_option maxRecDepth 100000 in
theorem implLC_any {v vX : Value} {M S : List (List Int)} {X : List Int} {s : Int} {w0 w : World} [Ext w0 w] (hp : IsProb w0 v M S) (_hs : I64 s) (hX : IsInts w0 vX X) :
    Calls Try.prog 12 #[v, .int .i64 s, vX] w fun e w' => e = .returned (.tuple #[.int .i64 (lcR M S s X), .bool (startB M S s X)]) ∧ Ext w w' := by
  have hp' := hp
  obtain ⟨v1, v2, rfl, hM, hS⟩ := hp
  have hM' := hM
  have hS' := hS
  obtain ⟨a1, c1, rfl, l1⟩ := hM.form
  obtain ⟨a2, c2, rfl, l2⟩ := hS.form
  have hX' := hX
  obtain ⟨aX, cX, rfl, lX⟩ := hX.form
  cases hB0 : startB M S s X with
  | false =>
    have hr := hid (hB0)
    have hz0 := hid (lcR_false hr.out)
    replace hB0 := hid hB0
    go_enter Try.func12, Try.ntmps12
    go_wp2_with fail
    refine (isStarted_any (w0 := w0) hp' hX').mono ?_; rw [hB0.out]; rintro e w1 ⟨rfl, hb1⟩
    have x0 : w1.cell? ⟨w.heap.size, 0, none⟩ = some (.slice a1 M.length c1) := hb1.cell (by go_simp)
    have x1 : w1.cell? ⟨w.heap.size, 1, none⟩ = some (.slice a2 S.length c2) := hb1.cell (by go_simp)
    have e1 : Ext w w1 := Ext.trans inferInstance hb1
    have e0 : Ext w0 w1 := Ext.trans ‹Ext w0 w› e1
    clear hb1
    go_wp2_with fail
    go_ret2
    rw [hz0.out]
    try rw [hr.out]
    exact ⟨rfl, Ext.trans e1 inferInstance⟩
  | true =>
    have hC0 := hid hB0
    replace hB0 := hid hB0
    have hok := hid (hC0.out)
    have hv0 := hid (lcR_true hok.out)
    go_enter Try.func12, Try.ntmps12
    go_wp2_with fail
    refine (isStarted_any (w0 := w0) hp' hX').mono ?_; rw [hB0.out]; rintro e w1 ⟨rfl, hb1⟩
    have x0 : w1.cell? ⟨w.heap.size, 0, none⟩ = some (.slice a1 M.length c1) := hb1.cell (by go_simp)
    have x1 : w1.cell? ⟨w.heap.size, 1, none⟩ = some (.slice a2 S.length c2) := hb1.cell (by go_simp)
    have e1 : Ext w w1 := Ext.trans inferInstance hb1
    have e0 : Ext w0 w1 := Ext.trans ‹Ext w0 w› e1
    clear hb1
    go_wp2_with fail
    refine (leastCost_any (w0 := w0) hM' hS' hX' hC0.out).mono ?_
    rw [← hv0.out]
    rintro e w3 ⟨rfl, hb⟩
    go_wp2_with fail
    go_ret2
    exact ⟨rfl, Ext.trans e1 hb⟩

end Go.Proofs.Ytkniohcmhdgbeaa
