/- WorkFunction and LeastCost of the reference and of the program. Written by works.py. -/
import Derived.Test.YtkibmjenjgijmaaGreatGrC
namespace Go.Proofs.YtkibmjenjgijmaaGreat
open Go.RowKit

def wfR (M S : List (List Int)) (s : Int) (X : List Int) : List Int := if startB M S s X = true then workL M S (row M s.toNat) X else []
def lcR (M S : List (List Int)) (s : Int) (X : List Int) : Int := if startB M S s X = true then optL M S (row M s.toNat) X else 0
theorem wfR_false {M S : List (List Int)} {s : Int} {X : List Int} (h : startB M S s X = false) : wfR M S s X = [] := by simp [wfR, h]
theorem wfR_true {M S : List (List Int)} {s : Int} {X : List Int} (h : startB M S s X = true) : wfR M S s X = workL M S (row M s.toNat) X := by simp [wfR, h]
theorem lcR_false {M S : List (List Int)} {s : Int} {X : List Int} (h : startB M S s X = false) : lcR M S s X = 0 := by simp [lcR, h]
theorem lcR_true {M S : List (List Int)} {s : Int} {X : List Int} (h : startB M S s X = true) : lcR M S s X = optL M S (row M s.toNat) X := by simp [lcR, h]
theorem wfR_len {M S : List (List Int)} {s : Int} {X : List Int} : (wfR M S s X).length ≤ 4000000 := by
  unfold wfR
  split
  · rename_i h
    have h1 := (start_workL h).1
    have h2 := probB_len (startB_prob h)
    omega
  · simp

set_option maxHeartbeats 800000 in
set_option maxRecDepth 100000 in
theorem specLC_any {v vX : Value} {M S : List (List Int)} {X : List Int} {s : Int} {w0 w : World} [Ext w0 w] (hp : IsProb w0 v M S) (_hs : I64 s) (hX : IsInts w0 vX X) :
    Calls Tryz.prog 31 #[v, .int .i64 s, vX] w fun e w' => e = .returned (.tuple #[.int .i64 (lcR M S s X), .bool (startB M S s X)]) ∧ Ext w w' := by
  have hp' := hp
  obtain ⟨v1, v2, rfl, hM, hS⟩ := hp
  have hM' := hM
  have hS' := hS
  obtain ⟨a1, c1, rfl, l1⟩ := hM.form
  obtain ⟨a2, c2, rfl, l2⟩ := hS.form
  have hX' := hX
  obtain ⟨aX, cX, rfl, lX⟩ := hX.form
  cases hB0 : startB M S s X with
  | false =>
    have hr := hid (hB0)
    have hz0 := hid (lcR_false hr.out)
    replace hB0 := hid hB0
    go_enter Tryz.func31, Tryz.ntmps31
    go_wp2_with fail
    refine (l8Takes_any (w0 := w0) hp' hX').mono ?_; rw [hB0.out]; rintro e w1 ⟨rfl, hb1⟩
    have x0 : w1.cell? ⟨w.heap.size, 0, none⟩ = some (.slice a1 M.length c1) := hb1.cell (by go_simp)
    have x1 : w1.cell? ⟨w.heap.size, 1, none⟩ = some (.slice a2 S.length c2) := hb1.cell (by go_simp)
    have e1 : Ext w w1 := Ext.trans inferInstance hb1
    have e0 : Ext w0 w1 := Ext.trans ‹Ext w0 w› e1
    clear hb1
    go_wp2_with fail
    go_ret2
    rw [hz0.out]
    try rw [hr.out]
    exact ⟨rfl, Ext.trans e1 inferInstance⟩
  | true =>
    have hC0 := hid hB0
    replace hB0 := hid hB0
    have hok := hid (hC0.out)
    have hv0 := hid (lcR_true hok.out)
    go_enter Tryz.func31, Tryz.ntmps31
    go_wp2_with fail
    refine (l8Takes_any (w0 := w0) hp' hX').mono ?_; rw [hB0.out]; rintro e w1 ⟨rfl, hb1⟩
    have x0 : w1.cell? ⟨w.heap.size, 0, none⟩ = some (.slice a1 M.length c1) := hb1.cell (by go_simp)
    have x1 : w1.cell? ⟨w.heap.size, 1, none⟩ = some (.slice a2 S.length c2) := hb1.cell (by go_simp)
    have e1 : Ext w w1 := Ext.trans inferInstance hb1
    have e0 : Ext w0 w1 := Ext.trans ‹Ext w0 w› e1
    clear hb1
    go_wp2_with fail
    refine (l8Opt_any (w0 := w0) hM' hS' hX' hC0.out).mono ?_
    rw [← hv0.out]
    rintro e w3 ⟨rfl, hb⟩
    go_wp2_with fail
    go_ret2
    exact ⟨rfl, Ext.trans e1 hb⟩

set_option maxHeartbeats 800000 in
set_option maxRecDepth 100000 in
theorem implLC_any {v vX : Value} {M S : List (List Int)} {X : List Int} {s : Int} {w0 w : World} [Ext w0 w] (hp : IsProb w0 v M S) (_hs : I64 s) (hX : IsInts w0 vX X) :
    Calls Tryz.prog 30 #[v, .int .i64 s, vX] w fun e w' => e = .returned (.tuple #[.int .i64 (lcR M S s X), .bool (startB M S s X)]) ∧ Ext w w' := by
  have hp' := hp
  obtain ⟨v1, v2, rfl, hM, hS⟩ := hp
  have hM' := hM
  have hS' := hS
  obtain ⟨a1, c1, rfl, l1⟩ := hM.form
  obtain ⟨a2, c2, rfl, l2⟩ := hS.form
  have hX' := hX
  obtain ⟨aX, cX, rfl, lX⟩ := hX.form
  cases hB0 : startB M S s X with
  | false =>
    have hr := hid (hB0)
    have hz0 := hid (lcR_false hr.out)
    replace hB0 := hid hB0
    go_enter Tryz.func30, Tryz.ntmps30
    go_wp2_with fail
    refine (isStarted_any (w0 := w0) hp' hX').mono ?_; rw [hB0.out]; rintro e w1 ⟨rfl, hb1⟩
    have x0 : w1.cell? ⟨w.heap.size, 0, none⟩ = some (.slice a1 M.length c1) := hb1.cell (by go_simp)
    have x1 : w1.cell? ⟨w.heap.size, 1, none⟩ = some (.slice a2 S.length c2) := hb1.cell (by go_simp)
    have e1 : Ext w w1 := Ext.trans inferInstance hb1
    have e0 : Ext w0 w1 := Ext.trans ‹Ext w0 w› e1
    clear hb1
    go_wp2_with fail
    go_ret2
    rw [hz0.out]
    try rw [hr.out]
    exact ⟨rfl, Ext.trans e1 inferInstance⟩
  | true =>
    have hC0 := hid hB0
    replace hB0 := hid hB0
    have hok := hid (hC0.out)
    have hv0 := hid (lcR_true hok.out)
    go_enter Tryz.func30, Tryz.ntmps30
    go_wp2_with fail
    refine (isStarted_any (w0 := w0) hp' hX').mono ?_; rw [hB0.out]; rintro e w1 ⟨rfl, hb1⟩
    have x0 : w1.cell? ⟨w.heap.size, 0, none⟩ = some (.slice a1 M.length c1) := hb1.cell (by go_simp)
    have x1 : w1.cell? ⟨w.heap.size, 1, none⟩ = some (.slice a2 S.length c2) := hb1.cell (by go_simp)
    have e1 : Ext w w1 := Ext.trans inferInstance hb1
    have e0 : Ext w0 w1 := Ext.trans ‹Ext w0 w› e1
    clear hb1
    go_wp2_with fail
    refine (leastCost_any (w0 := w0) hM' hS' hX' hC0.out).mono ?_
    rw [← hv0.out]
    rintro e w3 ⟨rfl, hb⟩
    go_wp2_with fail
    go_ret2
    exact ⟨rfl, Ext.trans e1 hb⟩

end Go.Proofs.YtkibmjenjgijmaaGreat
