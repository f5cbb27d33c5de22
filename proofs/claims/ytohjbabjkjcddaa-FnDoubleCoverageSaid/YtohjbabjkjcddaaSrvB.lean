/- Tests on configurations and sequences of servers, the reference's; costs of moves. Written by srv.py. -/
import Derived.Test.YtohjbabjkjcddaaSrv
import Derived.Test.YtohjbabjkjcddaaMatS
namespace Go.Proofs.Ytohjbabjkjcddaa
open Go.RowKit

set_option maxHeartbeats 800000 in
set_option maxRecDepth 100000 in
theorem l6List_any {v : Value} {X : List Int} {n : Int} {w0 w : World} [Ext w0 w] (hX : IsInts w0 v X) (hn : 0 ≤ n ∧ n ≤ 17592186044415) :
    Calls Try.prog 103 #[.int .i64 n, v] w fun e w' => e = .returned (.bool (belowB n X)) ∧ Ext w w' := by
  obtain ⟨a, c, rfl, la⟩ := hX.form
  go_enter Try.func103, Try.ntmps103
  go_wp2
  go_loop [5] (fun i => ∃ k : Nat, k ≤ X.length ∧ i = .int .i64 k ∧ Hid (∀ j, j < k → inB (nth X j) 0 (n - 1) = true)) (fun i => X.length - (intOf i).toNat)
  case atStart => exact ⟨0, by omega, rfl, by intro j hj; omega⟩
  case round =>
    obtain ⟨k, hk, rfl, hno⟩ := hrel
    by_cases hlt : k < X.length
    · obtain ⟨b, o, rfl, hc⟩ := hX.at (w' := w) hlt
      cases hb : inB (nth X k) 0 (n - 1) with
      | false =>
        have hr := hid (show belowB n X = false from belowB_not hlt hb)
        replace hb := hid hb
        go_wp2_with fail
        with_reducible refine (l1In_any _ _ _ _).mono ?_
        rw [hb.out]
        rintro e w1 ⟨rfl, rfl⟩
        go_wp2_with fail
        go_ret
        exact ⟨ret_bool hr.out.symm, Ext.refl _⟩
      | true =>
        replace hb := hid hb
        go_wp2_with fail
        with_reducible refine (l1In_any _ _ _ _).mono ?_
        rw [hb.out]
        rintro e w1 ⟨rfl, rfl⟩
        go_wp2_with fail
        go_round
        case rel =>
          refine ⟨k + 1, by omega, by go_num, fun j hj => ?_⟩
          by_cases e : j = k
          · rw [e]; exact hb.out
          · exact hno.out j (by omega)
        case measure => simp [intOf]; omega
    · have hr := hid (show belowB n X = true from belowB_of fun j hj => hno.out j (by omega))
      go_wp2
      go_ret
      exact ⟨ret_bool hr.out.symm, Ext.refl _⟩
set_option maxHeartbeats 800000 in
set_option maxRecDepth 100000 in
theorem l6Ascending_any {v : Value} {xs : List Int} {w0 w : World} [Ext w0 w] (hx : IsInts w0 v xs) :
    Calls Try.prog 94 #[v] w fun e w' => e = .returned (.bool (ascB xs)) ∧ Ext w w' := by
  obtain ⟨a, c, rfl, la⟩ := hx.form
  go_enter Try.func94, Try.ntmps94
  go_wp2
  go_loopw [3] (fun i wr => ∃ k : Nat, (k < xs.length ∨ (k = 0)) ∧ i = .int .i64 ((k : Int) + 1) ∧ Hid (∀ j, j < k → nth xs j ≤ nth xs (j + 1)) ∧ Ext w wr) (fun i _ => xs.length - (intOf i).toNat)
  case atStart => exact ⟨0, .inr rfl, rfl, fun j hj => by omega, Ext.refl _⟩
  case round =>
    obtain ⟨k, hk, rfl, hno, hxw⟩ := hrel
    by_cases hlt : k + 1 < xs.length
    · have e0 : Ext w0 wr := Ext.trans ‹Ext w0 w› hxw
      obtain ⟨b, o, rfl, hc1⟩ := hx.at (w' := wr) hlt
      obtain ⟨b', o', hq, hc2⟩ := hx.at (w' := wr) (k := k) (by omega)
      cases hq
      have hk2 : k < xs.length := by omega
      by_cases hg : nth xs (k + 1) < nth xs k
      · have hr := hid (ascB_not hlt hg)
        have hd : decide (nth xs (k + 1) < nth xs k) = true := decide_eq_true hg
        go_wp2_with (go_quiet (fail))
        go_ret
        exact ⟨ret_bool hr.out.symm, Ext.trans hxw inferInstance⟩
      · have hno2 := hid (show ∀ j, j < k + 1 → nth xs j ≤ nth xs (j + 1) from fun j h1 => by
          by_cases e : j = k
          · rw [e]; omega
          · exact hno.out j (by omega))
        have hd : decide (nth xs (k + 1) < nth xs k) = false := decide_eq_false hg
        go_wp2_with (go_quiet (fail))
        go_roundw
        case rel => exact ⟨k + 1, .inl hlt, by go_num, hno2.out, Ext.trans hxw inferInstance⟩
        case measure => simp [intOf]; omega
    · have hr := hid (show ascB xs = true from ascB_of fun j hj => hno.out j (by omega))
      go_wp2
      go_ret
      exact ⟨ret_bool hr.out.symm, hxw⟩

set_option maxHeartbeats 800000 in
set_option maxRecDepth 100000 in
theorem l6Config_any {va : Value} {n : Int} {a : List Int} {w0 w : World} [Ext w0 w] (ha : IsInts w0 va a) (hn : 0 ≤ n ∧ n ≤ 17592186044415) :
    Calls Try.prog 102 #[.int .i64 n, va] w fun e w' => e = .returned (.bool (cfgB n a)) ∧ Ext w w' := by
  have ha' := ha
  obtain ⟨da, ma, rfl, la⟩ := ha.form
  obtain ⟨RES, hRES⟩ : ∃ b, b = cfgB n a := ⟨_, rfl⟩
  rw [← hRES]
  replace hRES := hid hRES
  cases hc0 : inB a.length 1 3 with
  | false =>
    replace hc0 := hid hc0
    have hr := hid (show RES = false by rw [hRES.out]; simp [cfgB, hc0.out])
    go_enter Try.func102, Try.ntmps102
    go_wp2_with fail
    with_reducible refine (l1In_any _ _ _ _).mono ?_
    rw [hc0.out]
    rintro e wx ⟨rfl, rfl⟩
    go_wp2_with fail
    go_ret
    exact ⟨ret_bool hr.out.symm, inferInstance⟩
  | true =>
    replace hc0 := hid hc0
    cases hc1 : belowB n a with
    | false =>
      replace hc1 := hid hc1
      have hr := hid (show RES = false by rw [hRES.out]; simp [cfgB, hc0.out, hc1.out])
      go_enter Try.func102, Try.ntmps102
      go_wp2_with fail
      with_reducible refine (l1In_any _ _ _ _).mono ?_
      rw [hc0.out]
      rintro e wx ⟨rfl, rfl⟩
      go_wp2_with fail
      with_reducible refine (l6List_any (w0 := w0) ha' hn).mono ?_
      rw [hc1.out]
      rintro e w2 ⟨rfl, hb2⟩
      have g2 : Ext w w2 := Ext.trans inferInstance hb2
      have e02 : Ext w0 w2 := Ext.trans ‹Ext w0 w› g2
      go_wp2_with fail
      go_ret
      exact ⟨ret_bool hr.out.symm, g2⟩
    | true =>
      replace hc1 := hid hc1
      cases hc2 : ascB a with
      | false =>
        replace hc2 := hid hc2
        have hr := hid (show RES = false by rw [hRES.out]; simp [cfgB, hc0.out, hc1.out, hc2.out])
        go_enter Try.func102, Try.ntmps102
        go_wp2_with fail
        with_reducible refine (l1In_any _ _ _ _).mono ?_
        rw [hc0.out]
        rintro e wx ⟨rfl, rfl⟩
        go_wp2_with fail
        with_reducible refine (l6List_any (w0 := w0) ha' hn).mono ?_
        rw [hc1.out]
        rintro e w2 ⟨rfl, hb2⟩
        have g2 : Ext w w2 := Ext.trans inferInstance hb2
        have e02 : Ext w0 w2 := Ext.trans ‹Ext w0 w› g2
        go_wp2_with fail
        with_reducible refine (l6Ascending_any (w0 := w0) ha').mono ?_
        rw [hc2.out]
        rintro e w3 ⟨rfl, hb3⟩
        have g3 : Ext w w3 := Ext.trans g2 hb3
        have e03 : Ext w0 w3 := Ext.trans ‹Ext w0 w› g3
        go_wp2_with fail
        go_ret
        exact ⟨ret_bool hr.out.symm, g3⟩
      | true =>
        replace hc2 := hid hc2
        have hr := hid (show RES = true by rw [hRES.out]; simp [cfgB, hc0.out, hc1.out, hc2.out])
        go_enter Try.func102, Try.ntmps102
        go_wp2_with fail
        with_reducible refine (l1In_any _ _ _ _).mono ?_
        rw [hc0.out]
        rintro e wx ⟨rfl, rfl⟩
        go_wp2_with fail
        with_reducible refine (l6List_any (w0 := w0) ha' hn).mono ?_
        rw [hc1.out]
        rintro e w2 ⟨rfl, hb2⟩
        have g2 : Ext w w2 := Ext.trans inferInstance hb2
        have e02 : Ext w0 w2 := Ext.trans ‹Ext w0 w› g2
        go_wp2_with fail
        with_reducible refine (l6Ascending_any (w0 := w0) ha').mono ?_
        rw [hc2.out]
        rintro e w3 ⟨rfl, hb3⟩
        have g3 : Ext w w3 := Ext.trans g2 hb3
        have e03 : Ext w0 w3 := Ext.trans ‹Ext w0 w› g3
        go_wp2_with fail
        go_ret
        exact ⟨ret_bool hr.out.symm, g3⟩

set_option maxHeartbeats 1600000 in
set_option maxRecDepth 100000 in
theorem isServed_any {v va vX : Value} {M : List (List Int)} {a X : List Int} {w0 w : World} [Ext w0 w] (hm : IsMet w0 v M) (ha : IsInts w0 va a) (hX : IsInts w0 vX X) :
    Calls Try.prog 60 #[v, va, vX] w fun e w' => e = .returned (.bool (srvB M a X)) ∧ Ext w w' := by
  have ha' := ha
  have hX' := hX
  have hm' := hm
  obtain ⟨v1, rfl, hR⟩ := hm
  obtain ⟨a1, c1, rfl, l1⟩ := hR.form
  obtain ⟨da, ma, rfl, la⟩ := ha.form
  obtain ⟨dX, mX, rfl, lX⟩ := hX.form
  have x0 : (w.alloc (.cells #[.slice a1 M.length c1] 34)).cell? ⟨w.heap.size, 0, none⟩ = some (.slice a1 M.length c1) := by go_simp
  obtain ⟨RES, hRES⟩ : ∃ b, b = srvB M a X := ⟨_, rfl⟩
  rw [← hRES]
  replace hRES := hid hRES
  cases hc0 : metB M with
  | false =>
    replace hc0 := hid hc0
    have hr := hid (show RES = false by rw [hRES.out]; simp [srvB, hc0.out])
    go_enter Try.func60, Try.ntmps60
    go_wp2_with fail
    with_reducible refine (IsMetric_any (w0 := w0) hm').mono ?_
    rw [hc0.out]
    rintro e w1 ⟨rfl, hb1⟩
    have x1 : w1.cell? ⟨w.heap.size, 0, none⟩ = some (.slice a1 M.length c1) := hb1.cell (by go_simp)
    have g1 : Ext w w1 := Ext.trans inferInstance hb1
    have e01 : Ext w0 w1 := Ext.trans ‹Ext w0 w› g1
    go_wp2_with fail
    go_ret
    exact ⟨ret_bool hr.out.symm, g1⟩
  | true =>
    replace hc0 := hid hc0
    cases hc1 : cfgB M.length a with
    | false =>
      replace hc1 := hid hc1
      have hr := hid (show RES = false by rw [hRES.out]; simp [srvB, hc0.out, hc1.out])
      go_enter Try.func60, Try.ntmps60
      go_wp2_with fail
      with_reducible refine (IsMetric_any (w0 := w0) hm').mono ?_
      rw [hc0.out]
      rintro e w1 ⟨rfl, hb1⟩
      have x1 : w1.cell? ⟨w.heap.size, 0, none⟩ = some (.slice a1 M.length c1) := hb1.cell (by go_simp)
      have g1 : Ext w w1 := Ext.trans inferInstance hb1
      have e01 : Ext w0 w1 := Ext.trans ‹Ext w0 w› g1
      go_wp2_with fail
      with_reducible refine (isConfig_any (w0 := w0) hm' ha' (by omega)).mono ?_
      rw [hc1.out]
      rintro e w2 ⟨rfl, hb2⟩
      have x2 := hb2.cell x1
      have g2 : Ext w w2 := Ext.trans g1 hb2
      have e02 : Ext w0 w2 := Ext.trans ‹Ext w0 w› g2
      go_wp2_with fail
      go_ret
      exact ⟨ret_bool hr.out.symm, g2⟩
    | true =>
      replace hc1 := hid hc1
      cases hc2 : decide (X.length ≤ 60) with
      | false =>
        have hi2 : decide ((X.length : Int) ≤ 60) = false := by (simp at hc2 ⊢; omega)
        replace hc2 := hid hc2
        have hr := hid (show RES = false by rw [hRES.out]; simp [srvB, hc0.out, hc1.out, hc2.out])
        go_enter Try.func60, Try.ntmps60
        go_wp2_with fail
        with_reducible refine (IsMetric_any (w0 := w0) hm').mono ?_
        rw [hc0.out]
        rintro e w1 ⟨rfl, hb1⟩
        have x1 : w1.cell? ⟨w.heap.size, 0, none⟩ = some (.slice a1 M.length c1) := hb1.cell (by go_simp)
        have g1 : Ext w w1 := Ext.trans inferInstance hb1
        have e01 : Ext w0 w1 := Ext.trans ‹Ext w0 w› g1
        go_wp2_with fail
        with_reducible refine (isConfig_any (w0 := w0) hm' ha' (by omega)).mono ?_
        rw [hc1.out]
        rintro e w2 ⟨rfl, hb2⟩
        have x2 := hb2.cell x1
        have g2 : Ext w w2 := Ext.trans g1 hb2
        have e02 : Ext w0 w2 := Ext.trans ‹Ext w0 w› g2
        go_wp2_with fail
        go_ret
        exact ⟨ret_bool hr.out.symm, g2⟩
      | true =>
        have hi2 : decide ((X.length : Int) ≤ 60) = true := by (simp at hc2 ⊢; omega)
        replace hc2 := hid hc2
        cases hc3 : belowB M.length X with
        | false =>
          replace hc3 := hid hc3
          have hr := hid (show RES = false by rw [hRES.out]; simp [srvB, hc0.out, hc1.out, hc2.out, hc3.out])
          go_enter Try.func60, Try.ntmps60
          go_wp2_with fail
          with_reducible refine (IsMetric_any (w0 := w0) hm').mono ?_
          rw [hc0.out]
          rintro e w1 ⟨rfl, hb1⟩
          have x1 : w1.cell? ⟨w.heap.size, 0, none⟩ = some (.slice a1 M.length c1) := hb1.cell (by go_simp)
          have g1 : Ext w w1 := Ext.trans inferInstance hb1
          have e01 : Ext w0 w1 := Ext.trans ‹Ext w0 w› g1
          go_wp2_with fail
          with_reducible refine (isConfig_any (w0 := w0) hm' ha' (by omega)).mono ?_
          rw [hc1.out]
          rintro e w2 ⟨rfl, hb2⟩
          have x2 := hb2.cell x1
          have g2 : Ext w w2 := Ext.trans g1 hb2
          have e02 : Ext w0 w2 := Ext.trans ‹Ext w0 w› g2
          go_wp2_with fail
          with_reducible refine (areBelow_any (w0 := w0) hX' (by omega) (by omega)).mono ?_
          rw [hc3.out]
          rintro e w3 ⟨rfl, hb3⟩
          have x3 := hb3.cell x2
          have g3 : Ext w w3 := Ext.trans g2 hb3
          have e03 : Ext w0 w3 := Ext.trans ‹Ext w0 w› g3
          go_wp2_with fail
          go_ret
          exact ⟨ret_bool hr.out.symm, g3⟩
        | true =>
          replace hc3 := hid hc3
          have hr := hid (show RES = true by rw [hRES.out]; simp [srvB, hc0.out, hc1.out, hc2.out, hc3.out])
          go_enter Try.func60, Try.ntmps60
          go_wp2_with fail
          with_reducible refine (IsMetric_any (w0 := w0) hm').mono ?_
          rw [hc0.out]
          rintro e w1 ⟨rfl, hb1⟩
          have x1 : w1.cell? ⟨w.heap.size, 0, none⟩ = some (.slice a1 M.length c1) := hb1.cell (by go_simp)
          have g1 : Ext w w1 := Ext.trans inferInstance hb1
          have e01 : Ext w0 w1 := Ext.trans ‹Ext w0 w› g1
          go_wp2_with fail
          with_reducible refine (isConfig_any (w0 := w0) hm' ha' (by omega)).mono ?_
          rw [hc1.out]
          rintro e w2 ⟨rfl, hb2⟩
          have x2 := hb2.cell x1
          have g2 : Ext w w2 := Ext.trans g1 hb2
          have e02 : Ext w0 w2 := Ext.trans ‹Ext w0 w› g2
          go_wp2_with fail
          with_reducible refine (areBelow_any (w0 := w0) hX' (by omega) (by omega)).mono ?_
          rw [hc3.out]
          rintro e w3 ⟨rfl, hb3⟩
          have x3 := hb3.cell x2
          have g3 : Ext w w3 := Ext.trans g2 hb3
          have e03 : Ext w0 w3 := Ext.trans ‹Ext w0 w› g3
          go_wp2_with fail
          go_ret
          exact ⟨ret_bool hr.out.symm, g3⟩

set_option maxHeartbeats 1600000 in
set_option maxRecDepth 100000 in
theorem l6Start_any {v va vX : Value} {M : List (List Int)} {a X : List Int} {w0 w : World} [Ext w0 w] (hm : IsMet w0 v M) (ha : IsInts w0 va a) (hX : IsInts w0 vX X) :
    Calls Try.prog 58 #[v, va, vX] w fun e w' => e = .returned (.bool (srvB M a X)) ∧ Ext w w' := by
  have ha' := ha
  have hX' := hX
  have hm' := hm
  obtain ⟨v1, rfl, hR⟩ := hm
  obtain ⟨a1, c1, rfl, l1⟩ := hR.form
  obtain ⟨da, ma, rfl, la⟩ := ha.form
  obtain ⟨dX, mX, rfl, lX⟩ := hX.form
  have x0 : (w.alloc (.cells #[.slice a1 M.length c1] 34)).cell? ⟨w.heap.size, 0, none⟩ = some (.slice a1 M.length c1) := by go_simp
  obtain ⟨RES, hRES⟩ : ∃ b, b = srvB M a X := ⟨_, rfl⟩
  rw [← hRES]
  replace hRES := hid hRES
  cases hc0 : metB M with
  | false =>
    replace hc0 := hid hc0
    have hr := hid (show RES = false by rw [hRES.out]; simp [srvB, hc0.out])
    go_enter Try.func58, Try.ntmps58
    go_wp2_with fail
    with_reducible refine (l6Good_any (w0 := w0) hm').mono ?_
    rw [hc0.out]
    rintro e w1 ⟨rfl, hb1⟩
    have x1 : w1.cell? ⟨w.heap.size, 0, none⟩ = some (.slice a1 M.length c1) := hb1.cell (by go_simp)
    have g1 : Ext w w1 := Ext.trans inferInstance hb1
    have e01 : Ext w0 w1 := Ext.trans ‹Ext w0 w› g1
    go_wp2_with fail
    go_ret
    exact ⟨ret_bool hr.out.symm, g1⟩
  | true =>
    replace hc0 := hid hc0
    cases hc1 : cfgB M.length a with
    | false =>
      replace hc1 := hid hc1
      have hr := hid (show RES = false by rw [hRES.out]; simp [srvB, hc0.out, hc1.out])
      go_enter Try.func58, Try.ntmps58
      go_wp2_with fail
      with_reducible refine (l6Good_any (w0 := w0) hm').mono ?_
      rw [hc0.out]
      rintro e w1 ⟨rfl, hb1⟩
      have x1 : w1.cell? ⟨w.heap.size, 0, none⟩ = some (.slice a1 M.length c1) := hb1.cell (by go_simp)
      have g1 : Ext w w1 := Ext.trans inferInstance hb1
      have e01 : Ext w0 w1 := Ext.trans ‹Ext w0 w› g1
      go_wp2_with fail
      with_reducible refine (l6Config_any (w0 := w0) ha' (by omega)).mono ?_
      rw [hc1.out]
      rintro e w2 ⟨rfl, hb2⟩
      have x2 := hb2.cell x1
      have g2 : Ext w w2 := Ext.trans g1 hb2
      have e02 : Ext w0 w2 := Ext.trans ‹Ext w0 w› g2
      go_wp2_with fail
      go_ret
      exact ⟨ret_bool hr.out.symm, g2⟩
    | true =>
      replace hc1 := hid hc1
      cases hc2 : decide (X.length ≤ 60) with
      | false =>
        have hi2 : decide ((X.length : Int) ≤ 60) = false := by (simp at hc2 ⊢; omega)
        replace hc2 := hid hc2
        have hr := hid (show RES = false by rw [hRES.out]; simp [srvB, hc0.out, hc1.out, hc2.out])
        go_enter Try.func58, Try.ntmps58
        go_wp2_with fail
        with_reducible refine (l6Good_any (w0 := w0) hm').mono ?_
        rw [hc0.out]
        rintro e w1 ⟨rfl, hb1⟩
        have x1 : w1.cell? ⟨w.heap.size, 0, none⟩ = some (.slice a1 M.length c1) := hb1.cell (by go_simp)
        have g1 : Ext w w1 := Ext.trans inferInstance hb1
        have e01 : Ext w0 w1 := Ext.trans ‹Ext w0 w› g1
        go_wp2_with fail
        with_reducible refine (l6Config_any (w0 := w0) ha' (by omega)).mono ?_
        rw [hc1.out]
        rintro e w2 ⟨rfl, hb2⟩
        have x2 := hb2.cell x1
        have g2 : Ext w w2 := Ext.trans g1 hb2
        have e02 : Ext w0 w2 := Ext.trans ‹Ext w0 w› g2
        go_wp2_with fail
        go_ret
        exact ⟨ret_bool hr.out.symm, g2⟩
      | true =>
        have hi2 : decide ((X.length : Int) ≤ 60) = true := by (simp at hc2 ⊢; omega)
        replace hc2 := hid hc2
        cases hc3 : belowB M.length X with
        | false =>
          replace hc3 := hid hc3
          have hr := hid (show RES = false by rw [hRES.out]; simp [srvB, hc0.out, hc1.out, hc2.out, hc3.out])
          go_enter Try.func58, Try.ntmps58
          go_wp2_with fail
          with_reducible refine (l6Good_any (w0 := w0) hm').mono ?_
          rw [hc0.out]
          rintro e w1 ⟨rfl, hb1⟩
          have x1 : w1.cell? ⟨w.heap.size, 0, none⟩ = some (.slice a1 M.length c1) := hb1.cell (by go_simp)
          have g1 : Ext w w1 := Ext.trans inferInstance hb1
          have e01 : Ext w0 w1 := Ext.trans ‹Ext w0 w› g1
          go_wp2_with fail
          with_reducible refine (l6Config_any (w0 := w0) ha' (by omega)).mono ?_
          rw [hc1.out]
          rintro e w2 ⟨rfl, hb2⟩
          have x2 := hb2.cell x1
          have g2 : Ext w w2 := Ext.trans g1 hb2
          have e02 : Ext w0 w2 := Ext.trans ‹Ext w0 w› g2
          go_wp2_with fail
          with_reducible refine (l6List_any (w0 := w0) hX' (by omega)).mono ?_
          rw [hc3.out]
          rintro e w3 ⟨rfl, hb3⟩
          have x3 := hb3.cell x2
          have g3 : Ext w w3 := Ext.trans g2 hb3
          have e03 : Ext w0 w3 := Ext.trans ‹Ext w0 w› g3
          go_wp2_with fail
          go_ret
          exact ⟨ret_bool hr.out.symm, g3⟩
        | true =>
          replace hc3 := hid hc3
          have hr := hid (show RES = true by rw [hRES.out]; simp [srvB, hc0.out, hc1.out, hc2.out, hc3.out])
          go_enter Try.func58, Try.ntmps58
          go_wp2_with fail
          with_reducible refine (l6Good_any (w0 := w0) hm').mono ?_
          rw [hc0.out]
          rintro e w1 ⟨rfl, hb1⟩
          have x1 : w1.cell? ⟨w.heap.size, 0, none⟩ = some (.slice a1 M.length c1) := hb1.cell (by go_simp)
          have g1 : Ext w w1 := Ext.trans inferInstance hb1
          have e01 : Ext w0 w1 := Ext.trans ‹Ext w0 w› g1
          go_wp2_with fail
          with_reducible refine (l6Config_any (w0 := w0) ha' (by omega)).mono ?_
          rw [hc1.out]
          rintro e w2 ⟨rfl, hb2⟩
          have x2 := hb2.cell x1
          have g2 : Ext w w2 := Ext.trans g1 hb2
          have e02 : Ext w0 w2 := Ext.trans ‹Ext w0 w› g2
          go_wp2_with fail
          with_reducible refine (l6List_any (w0 := w0) hX' (by omega)).mono ?_
          rw [hc3.out]
          rintro e w3 ⟨rfl, hb3⟩
          have x3 := hb3.cell x2
          have g3 : Ext w w3 := Ext.trans g2 hb3
          have e03 : Ext w0 w3 := Ext.trans ‹Ext w0 w› g3
          go_wp2_with fail
          go_ret
          exact ⟨ret_bool hr.out.symm, g3⟩

set_option maxHeartbeats 400000 in
theorem moveCost_any {v va vb : Value} {M : List (List Int)} {a b : List Int} {w0 w : World} [Ext w0 w] (hm : IsMet w0 v M) (hM : metB M = true) (ha : IsInts w0 va a) (hb : IsInts w0 vb b)
    (hpa : Pts M.length a) (hpb : Pts M.length b) (hl : a.length = b.length) (h3 : a.length ≤ 3) :
    Calls Try.prog 136 #[v, va, vb] w fun e w' => e = .returned (.int .i64 (mvC M a b)) ∧ Ext w w' := by
  have hm' := hm
  have ha' := ha
  have hb' := hb
  obtain ⟨v1, rfl, hR⟩ := hm
  obtain ⟨a1, c1, rfl, l1⟩ := hR.form
  obtain ⟨da, ma, rfl, la⟩ := ha.form
  obtain ⟨db, mb, rfl, lb⟩ := hb.form
  have hM' := hid hM
  have hl' := hid hl
  clear hM hl
  go_enter Try.func136, Try.ntmps136
  go_wp2_with fail
  with_reducible refine (matched_any (w0 := w0) hm' hM'.out ha' hb' hpa hpb hl'.out h3).mono ?_
  rintro e w1 ⟨u, rfl, _, e1⟩
  go_wp2_with fail
  go_ret
  exact ⟨rfl, Ext.trans inferInstance e1⟩

end Go.Proofs.Ytohjbabjkjcddaa
