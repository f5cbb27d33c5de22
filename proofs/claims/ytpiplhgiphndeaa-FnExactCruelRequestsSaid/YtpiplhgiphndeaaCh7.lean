/- Tests on a metric and a number of servers, both sides. Written by ch7.py. -/
import Derived.Test.YtpiplhgiphndeaaSvP
import Derived.Test.YtpiplhgiphndeaaGrF
namespace Go.Proofs.Ytpiplhgiphndeaa
open Go.RowKit

def askB (M : List (List Int)) (k : Int) : Bool := metB M && inB k 1 3
def givB (M : List (List Int)) (k : Int) (ws : List Int) (r : Int) : Bool := askB M k && (inB r 0 (M.length - 1) && workB M (confs M.length k.toNat 0) ws)
theorem askB_iff {M : List (List Int)} {k : Int} : askB M k = true ↔ metB M = true ∧ 1 ≤ k ∧ k ≤ 3 := by simp [askB, inB]
theorem isSmall_any {v : Value} {l : List Int} {w0 w : World} [Ext w0 w] (hl : IsInts w0 v l) :
    Calls Try.prog 77 #[v] w fun e w' => e = .returned (.bool (belowB 100000 l)) ∧ Ext w w' := by
  have hl' := hl
  obtain ⟨a, c, rfl, la⟩ := hl.form
  go_enter Try.func77, Try.ntmps77
  go_wp2_with fail
  with_reducible refine (areBelow_any (w0 := w0) hl' (by omega) (by omega)).mono ?_
  rintro e w1 ⟨rfl, e1⟩
  go_wp2_with fail
  go_ret
  exact ⟨rfl, e1⟩
set_option maxHeartbeats 800000 in
set_option maxRecDepth 100000 in
theorem isKs_any {v : Value} {M : List (List Int)} {k : Int} {w0 w : World} [Ext w0 w] (hm : IsMet w0 v M) :
    Calls Try.prog 98 #[v, .int .i64 k] w fun e w' => e = .returned (.bool (askB M k)) ∧ Ext w w' := by
  have hm' := hm
  obtain ⟨v1, rfl, hR⟩ := hm
  obtain ⟨a1, c1, rfl, l1⟩ := hR.form
  obtain ⟨RES, hRES⟩ : ∃ b, b = askB M k := ⟨_, rfl⟩
  rw [← hRES]
  replace hRES := hid hRES
  cases hc0 : metB M with
  | false =>
    replace hc0 := hid hc0
    have hr := hid (show RES = false by rw [hRES.out]; simp [askB, hc0.out])
    go_enter Try.func98, Try.ntmps98
    go_wp2_with fail
    with_reducible refine (IsMetric_any (w0 := w0) hm').mono ?_
    rw [hc0.out]
    rintro e w1 ⟨rfl, hb1⟩
    have g1 : Ext w w1 := Ext.trans inferInstance hb1
    have e01 : Ext w0 w1 := Ext.trans ‹Ext w0 w› g1
    go_wp2_with fail
    go_ret
    exact ⟨ret_bool hr.out.symm, g1⟩
  | true =>
    replace hc0 := hid hc0
    cases hc1 : inB k 1 3 with
    | false =>
      replace hc1 := hid hc1
      have hr := hid (show RES = false by rw [hRES.out]; simp [askB, hc0.out, hc1.out])
      go_enter Try.func98, Try.ntmps98
      go_wp2_with fail
      with_reducible refine (IsMetric_any (w0 := w0) hm').mono ?_
      rw [hc0.out]
      rintro e w1 ⟨rfl, hb1⟩
      have g1 : Ext w w1 := Ext.trans inferInstance hb1
      have e01 : Ext w0 w1 := Ext.trans ‹Ext w0 w› g1
      go_wp2_with fail
      with_reducible refine (isServers_any _ _).mono ?_
      rw [hc1.out]
      rintro e wx ⟨rfl, rfl⟩
      go_wp2_with fail
      go_ret
      exact ⟨ret_bool hr.out.symm, g1⟩
    | true =>
      replace hc1 := hid hc1
      have hr := hid (show RES = true by rw [hRES.out]; simp [askB, hc0.out, hc1.out])
      go_enter Try.func98, Try.ntmps98
      go_wp2_with fail
      with_reducible refine (IsMetric_any (w0 := w0) hm').mono ?_
      rw [hc0.out]
      rintro e w1 ⟨rfl, hb1⟩
      have g1 : Ext w w1 := Ext.trans inferInstance hb1
      have e01 : Ext w0 w1 := Ext.trans ‹Ext w0 w› g1
      go_wp2_with fail
      with_reducible refine (isServers_any _ _).mono ?_
      rw [hc1.out]
      rintro e wx ⟨rfl, rfl⟩
      go_wp2_with fail
      go_ret
      exact ⟨ret_bool hr.out.symm, g1⟩

set_option maxHeartbeats 800000 in
set_option maxRecDepth 100000 in
theorem l7Asked_any {v : Value} {M : List (List Int)} {k : Int} {w0 w : World} [Ext w0 w] (hm : IsMet w0 v M) :
    Calls Try.prog 94 #[v, .int .i64 k] w fun e w' => e = .returned (.bool (askB M k)) ∧ Ext w w' := by
  have hm' := hm
  obtain ⟨v1, rfl, hR⟩ := hm
  obtain ⟨a1, c1, rfl, l1⟩ := hR.form
  obtain ⟨RES, hRES⟩ : ∃ b, b = askB M k := ⟨_, rfl⟩
  rw [← hRES]
  replace hRES := hid hRES
  cases hc0 : metB M with
  | false =>
    replace hc0 := hid hc0
    have hr := hid (show RES = false by rw [hRES.out]; simp [askB, hc0.out])
    go_enter Try.func94, Try.ntmps94
    go_wp2_with fail
    with_reducible refine (l6Good_any (w0 := w0) hm').mono ?_
    rw [hc0.out]
    rintro e w1 ⟨rfl, hb1⟩
    have g1 : Ext w w1 := Ext.trans inferInstance hb1
    have e01 : Ext w0 w1 := Ext.trans ‹Ext w0 w› g1
    go_wp2_with fail
    go_ret
    exact ⟨ret_bool hr.out.symm, g1⟩
  | true =>
    replace hc0 := hid hc0
    cases hc1 : inB k 1 3 with
    | false =>
      replace hc1 := hid hc1
      have hr := hid (show RES = false by rw [hRES.out]; simp [askB, hc0.out, hc1.out])
      go_enter Try.func94, Try.ntmps94
      go_wp2_with fail
      with_reducible refine (l6Good_any (w0 := w0) hm').mono ?_
      rw [hc0.out]
      rintro e w1 ⟨rfl, hb1⟩
      have g1 : Ext w w1 := Ext.trans inferInstance hb1
      have e01 : Ext w0 w1 := Ext.trans ‹Ext w0 w› g1
      go_wp2_with fail
      with_reducible refine (l1In_any _ _ _ _).mono ?_
      rw [hc1.out]
      rintro e wx ⟨rfl, rfl⟩
      go_wp2_with fail
      go_ret
      exact ⟨ret_bool hr.out.symm, g1⟩
    | true =>
      replace hc1 := hid hc1
      have hr := hid (show RES = true by rw [hRES.out]; simp [askB, hc0.out, hc1.out])
      go_enter Try.func94, Try.ntmps94
      go_wp2_with fail
      with_reducible refine (l6Good_any (w0 := w0) hm').mono ?_
      rw [hc0.out]
      rintro e w1 ⟨rfl, hb1⟩
      have g1 : Ext w w1 := Ext.trans inferInstance hb1
      have e01 : Ext w0 w1 := Ext.trans ‹Ext w0 w› g1
      go_wp2_with fail
      with_reducible refine (l1In_any _ _ _ _).mono ?_
      rw [hc1.out]
      rintro e wx ⟨rfl, rfl⟩
      go_wp2_with fail
      go_ret
      exact ⟨ret_bool hr.out.symm, g1⟩
end Go.Proofs.Ytpiplhgiphndeaa
