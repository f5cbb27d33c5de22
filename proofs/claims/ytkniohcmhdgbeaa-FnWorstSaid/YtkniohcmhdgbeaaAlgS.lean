/- AlgorithmStates and AlgorithmCost of the reference and of the program. Written by algs.py. -/
import Derived.Test.YtkniohcmhdgbeaaRunW
namespace Go.Proofs.Ytkniohcmhdgbeaa
open Go.RowKit

theorem isInts_zero (w : World) (d : Option Addr) (c : Nat) : IsInts w (.slice d ([] : List Int).length c) [] := ⟨d, c, rfl, ⟨Nat.zero_le _, Nat.zero_le _⟩, by simp, fun j hj => by simp at hj⟩
theorem isRows_zero (w : World) (d : Option Addr) (c : Nat) : IsRows w (.slice d ([] : List (List Int)).length c) [] := ⟨d, c, rfl, Nat.zero_le _, fun j hj => by simp at hj⟩
theorem own_nils_i (w : World) (B : Nat) : Own w B [intRowOf 3 (.slice none ([] : List Int).length 0) []] := (Own.nil w B).cons_nil _ _
theorem own_nils_r (w : World) (B : Nat) : Own w B (rowsOf 29 3 (.slice none ([] : List (List Int)).length 0) [] []) := (Own.nil w B).cons_nil _ _
theorem own_nils_rr (w : World) (B : Nat) : Own w B (rowsOf 29 3 (.slice none ([] : List (List Int)).length 0) [] [] ++ rowsOf 29 3 (.slice none ([] : List (List Int)).length 0) [] []) := ((Own.nil w B).cons_nil _ _).cons_nil _ _

set_option maxHeartbeats 800000 in
set_option maxRecDepth 100000 in
theorem implAlgCost_any {v vN vX : Value} {M S : List (List Int)} {N : List (List Int)} {X : List Int} {s : Int} {w0 w : World} [Ext w0 w] (hp : IsProb w0 v M S) (hN : IsRows w0 vN N) (_hs : I64 s) (hX : IsInts w0 vX X) :
    Calls Try.prog 11 #[v, vN, .int .i64 s, vX] w fun e w' => e = .returned (.tuple #[.int .i64 (costA M S N s X), .bool (algOk M S N s X)]) ∧ Ext w w' := by
  have hp' := hp
  obtain ⟨v1, v2, rfl, hM, hS⟩ := hp
  have hM' := hM
  have hS' := hS
  obtain ⟨a1, c1, rfl, l1⟩ := hM.form
  obtain ⟨a2, c2, rfl, l2⟩ := hS.form
  have hN' := hN
  obtain ⟨aN, cN, rfl, lN⟩ := hN.form
  have hX' := hX
  obtain ⟨aX, cX, rfl, lX⟩ := hX.form
  cases hB0 : startB M S s X with
  | false =>
    have hr := hid (algOk_start (N := N) hB0)
    have hz0 := hid (costA_false hr.out)
    replace hB0 := hid hB0
    go_enter Try.func11, Try.ntmps11
    go_wp2_with fail
    refine (isStarted_any (w0 := w0) hp' hX').mono ?_; rw [hB0.out]; rintro e w1 ⟨rfl, hb1⟩
    have x0 : w1.cell? ⟨w.heap.size, 0, none⟩ = some (.slice a1 M.length c1) := hb1.cell (by go_simp)
    have x1 : w1.cell? ⟨w.heap.size, 1, none⟩ = some (.slice a2 S.length c2) := hb1.cell (by go_simp)
    have e1 : Ext w w1 := Ext.trans inferInstance hb1
    have e0 : Ext w0 w1 := Ext.trans ‹Ext w0 w› e1
    clear hb1
    go_wp2_with fail
    go_ret2
    rw [hz0.out]
    rw [hr.out]
    exact ⟨rfl, Ext.trans e1 inferInstance⟩
  | true =>
    have hC0 := hid hB0
    replace hB0 := hid hB0
    cases hB1 : algB M S N with
    | false =>
      have hr := hid (algOk_alg (s := s) (X := X) hB1)
      have hz0 := hid (costA_false hr.out)
      replace hB1 := hid hB1
      go_enter Try.func11, Try.ntmps11
      go_wp2_with fail
      refine (isStarted_any (w0 := w0) hp' hX').mono ?_; rw [hB0.out]; rintro e w1 ⟨rfl, hb1⟩
      have x0 : w1.cell? ⟨w.heap.size, 0, none⟩ = some (.slice a1 M.length c1) := hb1.cell (by go_simp)
      have x1 : w1.cell? ⟨w.heap.size, 1, none⟩ = some (.slice a2 S.length c2) := hb1.cell (by go_simp)
      have e1 : Ext w w1 := Ext.trans inferInstance hb1
      have e0 : Ext w0 w1 := Ext.trans ‹Ext w0 w› e1
      clear hb1
      go_wp2_with fail
      refine (isAlgorithm_any (w0 := w0) hM' hS' hN' (startB_prob hC0.out)).mono ?_; rw [hB1.out]; rintro e w2 ⟨rfl, hb2⟩
      replace x0 := hb2.cell x0
      replace x1 := hb2.cell x1
      have e2 : Ext w w2 := Ext.trans e1 hb2
      have e0 : Ext w0 w2 := Ext.trans ‹Ext w0 w› e2
      clear hb2
      go_wp2_with fail
      go_ret2
      rw [hz0.out]
      rw [hr.out]
      exact ⟨rfl, Ext.trans e2 inferInstance⟩
    | true =>
      have hC1 := hid hB1
      replace hB1 := hid hB1
      have hok := hid (algOk_true hC0.out hC1.out)
      have hv0 := hid (costA_true hok.out)
      go_enter Try.func11, Try.ntmps11
      go_wp2_with fail
      refine (isStarted_any (w0 := w0) hp' hX').mono ?_; rw [hB0.out]; rintro e w1 ⟨rfl, hb1⟩
      have x0 : w1.cell? ⟨w.heap.size, 0, none⟩ = some (.slice a1 M.length c1) := hb1.cell (by go_simp)
      have x1 : w1.cell? ⟨w.heap.size, 1, none⟩ = some (.slice a2 S.length c2) := hb1.cell (by go_simp)
      have e1 : Ext w w1 := Ext.trans inferInstance hb1
      have e0 : Ext w0 w1 := Ext.trans ‹Ext w0 w› e1
      clear hb1
      go_wp2_with fail
      refine (isAlgorithm_any (w0 := w0) hM' hS' hN' (startB_prob hC0.out)).mono ?_; rw [hB1.out]; rintro e w2 ⟨rfl, hb2⟩
      replace x0 := hb2.cell x0
      replace x1 := hb2.cell x1
      have e2 : Ext w w2 := Ext.trans e1 hb2
      have e0 : Ext w0 w2 := Ext.trans ‹Ext w0 w› e2
      clear hb2
      go_wp2_with fail
      refine (ran_any (w0 := w0) hM' hS' hN' hX' hC0.out hC1.out).mono ?_
      rw [← hv0.out]
      rintro e w3 ⟨d, m, rfl, own, hb⟩
      go_wp2_with fail
      go_ret2
      rw [hok.out]
      exact ⟨rfl, Ext.trans e2 hb⟩

end Go.Proofs.Ytkniohcmhdgbeaa
