/- Tests of an algorithm: the reference's and the program's. -/
import Derived.Test.YtkniohcmhdgbeaaCount
namespace Go.Proofs.Ytkniohcmhdgbeaa
open Go.RowKit

/-- whether a request r can be served in s -/
def stOk (M S : List (List Int)) (r : Nat) (s : Int) : Bool := inB s 0 (M.length - 1) && decide (0 ≤ cell S r s.toNat)
def rowOk (M S : List (List Int)) (x : List Int) : Bool := decide (x.length = S.length) && decide (∀ r, r < x.length → stOk M S r (nth x r) = true)
def algB (M S next : List (List Int)) : Bool := decide (next.length = M.length) && decide (∀ x ∈ next, rowOk M S x = true)

theorem stOk_lt {M : List (List Int)} {s : Int} (h : inB s 0 (M.length - 1) = true) : 0 ≤ s ∧ s.toNat < M.length := by
  have := inB_true.1 h
  omega
theorem rowOk_not {M S : List (List Int)} {x : List Int} {r : Nat} (hr : r < x.length) (h : stOk M S r (nth x r) = false) : rowOk M S x = false := by
  rw [rowOk, Bool.and_eq_false_iff]
  refine .inr (decide_eq_false fun h' => ?_)
  rw [h' r hr] at h
  cases h
theorem algB_not {M S next : List (List Int)} {k : Nat} (hk : k < next.length) (h : rowOk M S (row next k) = false) : algB M S next = false := by
  rw [algB, Bool.and_eq_false_iff]
  refine .inr (decide_eq_false fun h' => ?_)
  rw [h' _ (row_mem hk)] at h
  cases h

set_option maxHeartbeats 400000 in
theorem isState_any {v1 v2 : Value} {M S : List (List Int)} {s : Int} {w0 w : World} (hM : IsRows w0 v1 M) (hS : IsRows w0 v2 S) :
    Calls Try.prog 51 #[.agg #[v1, v2], .int .i64 s] w fun e w' => e = .returned (.bool (inB s 0 (M.length - 1))) ∧ Ext w w' := by
  obtain ⟨a1, c1, rfl, l1⟩ := hM.form
  obtain ⟨a2, c2, rfl, l2⟩ := hS.form
  go_enter Try.func51, Try.ntmps51
  go_wp2_with (go_at_call 38; refine (within_any _ _ _ _).mono ?_; rintro e w' ⟨rfl, rfl⟩)
  go_ret
  exact ⟨rfl, inferInstance⟩

set_option maxHeartbeats 1000000 in
set_option maxRecDepth 100000 in
theorem areServed_any {v1 v2 v3 : Value} {M S : List (List Int)} {x : List Int} {w0 w : World} [Ext w0 w] (hM : IsRows w0 v1 M) (hS : IsRows w0 v2 S) (hx : IsInts w0 v3 x) (hp : probB M S = true) :
    Calls Try.prog 82 #[.agg #[v1, v2], v3] w fun e w' => e = .returned (.bool (rowOk M S x)) ∧ Ext w w' := by
  obtain ⟨a1, c1, rfl, l1⟩ := hM.form
  obtain ⟨a2, c2, rfl, l2⟩ := hS.form
  obtain ⟨a3, c3, rfl, l3⟩ := hx.form
  replace hp := hid hp
  by_cases hl : x.length = S.length
  · have hl' : ((x.length : Int) != S.length) = false := by simp [hl]
    replace hl := hid hl
    go_enter Try.func82, Try.ntmps82
    go_wp2
    go_loopw [15] (fun i wr => ∃ k : Nat, k ≤ x.length ∧ i = .int .i64 k ∧ Hid (∀ r, r < k → stOk M S r (nth x r) = true) ∧ Ext (w.alloc (.cells #[.slice a1 M.length c1, .slice a2 S.length c2] 26)) wr) (fun i _ => x.length - (intOf i).toNat)
    case atStart => exact ⟨0, by omega, rfl, by intro r hr; omega, inferInstance⟩
    case round =>
      obtain ⟨k, hk, rfl, hok, hb⟩ := hrel
      have x0 : wr.cell? ⟨w.heap.size, 0, none⟩ = some (.slice a1 M.length c1) := hb.cell (by go_simp)
      have x1 : wr.cell? ⟨w.heap.size, 1, none⟩ = some (.slice a2 S.length c2) := hb.cell (by go_simp)
      have e1 : Ext w wr := Ext.trans inferInstance hb
      have e0 : Ext w0 wr := Ext.trans ‹Ext w0 w› e1
      by_cases hlt : k < x.length
      · obtain ⟨b3, o3, rfl, hc3⟩ := hx.at (w' := wr) hlt
        cases hin : inB (nth x k) 0 (M.length - 1) with
        | false =>
          have hr := hid (show rowOk M S x = false from rowOk_not hlt (by rw [stOk, hin]; rfl))
          replace hin := hid hin
          go_wp2_with (go_at_call 51; refine (isState_any hM hS).mono ?_; rw [hin.out]; rintro e w1 ⟨rfl, hb1⟩)
          go_ret
          exact ⟨ret_bool hr.out.symm, Ext.trans e1 hb1⟩
        | true =>
          have hst := stOk_lt hin
          obtain ⟨s, hs⟩ := Int.eq_ofNat_of_zero_le hst.1
          have hsn : s < M.length := by have := hst.2; rw [hs, Int.toNat_natCast] at this; exact this
          have hkS : k < S.length := by have := hl.out; omega
          have hrow := hid (probB_row hp.out hkS).1
          by_cases hge : 0 ≤ cell S k s
          · have hgood := hid (show stOk M S k (nth x k) = true by rw [stOk, hin, hs, Int.toNat_natCast, decide_eq_true hge]; rfl)
            have hge' : decide (cell S k s < 0) = false := by simpa using hge
            rw [hs] at hin hc3
            replace hin := hid hin
            replace hs := hid hs
            go_wp2_with fail
            refine (isState_any hM hS).mono ?_; rw [hin.out]; rintro e w1 ⟨rfl, hb1⟩
            have e2 : Ext w0 w1 := Ext.trans e0 hb1
            obtain ⟨b, o, d, m, rfl, hc4, hr4, _⟩ := hS.at (w' := w1) hkS
            obtain ⟨b5, o5, rfl, hc5⟩ := hr4.at (w' := w1) (k := s) (by rw [hrow.out]; exact hsn)
            have hlt5 : s < (row S k).length := by rw [hrow.out]; exact hsn
            replace x1 := hb1.cell x1
            have hc5' : w1.cell? ⟨b5, o5 + s, none⟩ = some (.int .i64 (cell S k s)) := hc5
            clear hc5
            go_wp2_with fail
            go_roundw
            case rel =>
              refine ⟨k + 1, by omega, by go_num, ?_, Ext.trans hb hb1⟩
              intro r hr
              by_cases hrk : r = k
              · subst hrk; exact hgood.out
              · exact hok.out r (by omega)
            case measure => simp [intOf]; omega
          · have hr := hid (show rowOk M S x = false from rowOk_not hlt (by rw [stOk, hin, hs, Int.toNat_natCast, decide_eq_false hge]; rfl))
            have hge' : decide (cell S k s < 0) = true := by simp; omega
            rw [hs] at hin hc3
            replace hin := hid hin
            replace hs := hid hs
            go_wp2_with fail
            refine (isState_any hM hS).mono ?_; rw [hin.out]; rintro e w1 ⟨rfl, hb1⟩
            have e2 : Ext w0 w1 := Ext.trans e0 hb1
            obtain ⟨b, o, d, m, rfl, hc4, hr4, _⟩ := hS.at (w' := w1) hkS
            obtain ⟨b5, o5, rfl, hc5⟩ := hr4.at (w' := w1) (k := s) (by rw [hrow.out]; exact hsn)
            have hlt5 : s < (row S k).length := by rw [hrow.out]; exact hsn
            replace x1 := hb1.cell x1
            have hc5' : w1.cell? ⟨b5, o5 + s, none⟩ = some (.int .i64 (cell S k s)) := hc5
            clear hc5
            go_wp2_with fail
            go_ret
            exact ⟨ret_bool hr.out.symm, Ext.trans e1 hb1⟩
      · go_wp2
        go_ret
        refine ⟨ret_bool ?_, e1⟩
        rw [rowOk, decide_eq_true hl.out, decide_eq_true (fun r hr => hok.out r (by omega))]; rfl
  · have hl' : ((x.length : Int) != S.length) = true := by simp; omega
    have hr := hid (show rowOk M S x = false by rw [rowOk, decide_eq_false hl]; rfl)
    replace hl := hid hl
    go_enter Try.func82, Try.ntmps82
    go_wp2
    go_ret
    exact ⟨ret_bool hr.out.symm, inferInstance⟩

set_option maxHeartbeats 400000 in
theorem isAlgorithm1_any {v1 v2 v3 : Value} {M S : List (List Int)} {x : List Int} {B : Nat} {w0 w : World} [Ext w0 w] (hM : IsRows w0 v1 M) (hS : IsRows w0 v2 S) (hx : IsInts w0 v3 x) (hp : probB M S = true)
    (h1 : w.cell? ⟨B, 0, none⟩ = some v1) (h2 : w.cell? ⟨B, 1, none⟩ = some v2) :
    Calls Try.prog 81 #[v3, .pointer (some ⟨B, 0, none⟩)] w fun e w' => e = .returned (.bool (!rowOk M S x)) ∧ Ext w w' := by
  have hM' := hM
  have hS' := hS
  have hx' := hx
  obtain ⟨a1, c1, rfl, l1⟩ := hM.form
  obtain ⟨a2, c2, rfl, l2⟩ := hS.form
  obtain ⟨a3, c3, rfl, l3⟩ := hx.form
  replace hp := hid hp
  go_enter Try.func81, Try.ntmps81
  go_wp2_with fail
  refine (areServed_any (w0 := w0) hM' hS' hx' hp.out).mono ?_
  rintro e w1 ⟨rfl, hb⟩
  go_wp2_with fail
  go_ret
  exact ⟨rfl, hb⟩

theorem isAlgorithm1_call (xa : Array Value) (W : World) : (callFunc 81 xa).run Try.prog W = .ok (.enter 81 xa) W := by kernel_rfl
theorem isAlgorithm1_all {v1 v2 : Value} {M S next : List (List Int)} {B : Nat} {w0 w : World} [Ext w0 w] (hM : IsRows w0 v1 M) (hS : IsRows w0 v2 S) (hp : probB M S = true)
    (h1 : w.cell? ⟨B, 0, none⟩ = some v1) (h2 : w.cell? ⟨B, 1, none⟩ = some v2) :
    ∀ (W : World), Ext w W → ∀ k, k < next.length → ∀ d m, IsInts w0 (.slice d (row next k).length m) (row next k) →
      Calls Try.prog 81 (#[.slice d (row next k).length m] ++ #[.pointer (some ⟨B, 0, none⟩)]) W fun e w' => e = .returned (.bool ((fun x => !rowOk M S x) (row next k))) ∧ Ext W w' := by
  intro W hW k hk d m hrow
  have e0 : Ext w0 W := Ext.trans ‹Ext w0 w› hW
  exact isAlgorithm1_any (w0 := w0) hM hS hrow hp (hW.cell h1) (hW.cell h2)

theorem rows_all (M S next : List (List Int)) : (!next.any fun x => !rowOk M S x) = decide (∀ x ∈ next, rowOk M S x = true) := by
  rw [List.not_any_eq_all_not, Bool.eq_iff_iff, decide_eq_true_eq, List.all_eq_true]
  simp

set_option maxHeartbeats 800000 in
theorem isAlgorithm_any {v1 v2 v3 : Value} {M S next : List (List Int)} {w0 w : World} [Ext w0 w] (hM : IsRows w0 v1 M) (hS : IsRows w0 v2 S) (hx : IsRows w0 v3 next) (hp : probB M S = true) :
    Calls Try.prog 37 #[.agg #[v1, v2], v3] w fun e w' => e = .returned (.bool (algB M S next)) ∧ Ext w w' := by
  have hM' := hM
  have hS' := hS
  have hx' := hx
  obtain ⟨a1, c1, rfl, l1⟩ := hM.form
  obtain ⟨a2, c2, rfl, l2⟩ := hS.form
  obtain ⟨a3, c3, rfl, l3⟩ := hx.form
  replace hp := hid hp
  by_cases hl : next.length = M.length
  · have hl' : ((next.length : Int) == M.length) = true := by simp [hl]
    replace hl := hid hl
    have hR := hid (rows_all M S next)
    go_enter Try.func37, Try.ntmps37
    go_wp2_with fail
    generalize hW : w.alloc (.cells #[.slice a1 M.length c1, .slice a2 S.length c2] 26) = W1
    have e1 : Ext w W1 := hW ▸ inferInstance
    have e0 : Ext w0 W1 := Ext.trans ‹Ext w0 w› e1
    have x0 : W1.cell? ⟨w.heap.size, 0, none⟩ = some (.slice a1 M.length c1) := by subst hW; go_simp
    have x1 : W1.cell? ⟨w.heap.size, 1, none⟩ = some (.slice a2 S.length c2) := by subst hW; go_simp
    clear hW
    refine (containsFuncRows_any (w0 := w0) hx' _ _ (fun x => !rowOk M S x) isAlgorithm1_call (isAlgorithm1_all hM' hS' hp.out x0 x1)).mono ?_
    rintro e w2 ⟨rfl, hb⟩
    generalize hz : (next.any fun x => !rowOk M S x) = z at *
    replace hz := hid hz
    go_wp2_with fail
    go_ret
    refine ⟨ret_bool ?_, Ext.trans e1 hb⟩
    rw [algB, decide_eq_true hl.out, ← hR.out]; rfl
  · have hl' : ((next.length : Int) == M.length) = false := by simp; omega
    have hr := hid (show algB M S next = false by rw [algB, decide_eq_false hl]; rfl)
    replace hl := hid hl
    go_enter Try.func37, Try.ntmps37
    go_wp2_with fail
    go_ret
    exact ⟨ret_bool hr.out.symm, inferInstance⟩

def algR (M S next : List (List Int)) : Bool := probB M S && algB M S next

set_option maxHeartbeats 1600000 in
set_option maxRecDepth 100000 in
theorem l8Alg_any {v1 v2 v3 : Value} {M S next : List (List Int)} {w0 w : World} [Ext w0 w] (hM : IsRows w0 v1 M) (hS : IsRows w0 v2 S) (hx : IsRows w0 v3 next) (hp : probB M S = true) :
    Calls Try.prog 45 #[.agg #[v1, v2], v3] w fun e w' => e = .returned (.bool (algB M S next)) ∧ Ext w w' := by
  obtain ⟨a1, c1, rfl, l1⟩ := hM.form
  obtain ⟨a2, c2, rfl, l2⟩ := hS.form
  obtain ⟨a3, c3, rfl, l3⟩ := hx.form
  replace hp := hid hp
  by_cases hl : next.length = M.length
  · have hl' : ((next.length : Int) != M.length) = false := by simp [hl]
    replace hl := hid hl
    go_enter Try.func45, Try.ntmps45
    go_wp2
    go_loopw [5] (fun i wr => ∃ k : Nat, k ≤ next.length ∧ i = .int .i64 k ∧ Hid (∀ j, j < k → rowOk M S (row next j) = true) ∧ Drew (w.alloc (.cells #[.slice a1 M.length c1, .slice a2 S.length c2] 26)) wr) (fun i _ => next.length - (intOf i).toNat)
    case atStart => exact ⟨0, by omega, rfl, by intro r hr; omega, Drew.refl _⟩
    case round =>
      obtain ⟨k, hk, rfl, hok, hd⟩ := hrel
      have x0 : wr.cell? ⟨w.heap.size, 0, none⟩ = some (.slice a1 M.length c1) := hd.ext.cell (by go_simp)
      have x1 : wr.cell? ⟨w.heap.size, 1, none⟩ = some (.slice a2 S.length c2) := hd.ext.cell (by go_simp)
      have e1 : Ext w wr := Ext.trans inferInstance hd.ext
      have e0 : Ext w0 wr := Ext.trans ‹Ext w0 w› e1
      by_cases hlt : k < next.length
      · obtain ⟨b, o, d, m, rfl, hc, hr, hrl⟩ := hx.at (w' := wr) hlt
        by_cases hll : (row next k).length = S.length
        · have hll' : (((row next k).length : Int) != S.length) = false := by simp [hll]
          replace hll := hid hll
          go_wp2_with (go_quiet (fail))
          replace hd := hd.step nq
          generalize hwq : wr.drewN nq = wq at *
          have ewq : Ext wr wq := hwq ▸ inferInstance
          replace x0 := ewq.cell x0
          replace x1 := ewq.cell x1
          replace hc := ewq.cell hc
          have e2 : Ext w0 wq := Ext.trans e0 ewq
          clear hwq
          go_loopw [6] (fun i wr => ∃ j : Nat, j ≤ (row next k).length ∧ i = .int .i64 j ∧ Hid (∀ r, r < j → stOk M S r (nth (row next k) r) = true) ∧ Drew wq wr) (fun i _ => (row next k).length - (intOf i).toNat)
          case atStart => exact ⟨0, by omega, rfl, by intro r hr; omega, Drew.refl _⟩
          case round =>
            obtain ⟨j, hj, rfl, hst, hd2⟩ := hrel
            have y0 := hd2.ext.cell x0
            have y1 := hd2.ext.cell x1
            have yc := hd2.ext.cell hc
            by_cases hltj : j < (row next k).length
            · have e3 : Ext w0 wr := Ext.trans e2 hd2.ext
              obtain ⟨b6, o6, rfl, hc6⟩ := hr.at (w' := wr) hltj
              cases hin : inB (nth (row next k) j) 0 (M.length - 1) with
              | false =>
                have hfin := hid (show algB M S next = false from algB_not hlt (rowOk_not hltj (by rw [stOk, hin]; rfl)))
                have hE : ∀ n, Calls Try.prog 46 #[.int .i64 (nth (row next k) j), .int .i64 0, .int .i64 ((M.length : Int) - 1)] (wr.drewN n) fun e w' => e = .returned (.bool false) ∧ ∃ m, w' = wr.drewN m :=
                  fun n => (l1In_any _ _ _ _).mono fun e w' ⟨h1, h2⟩ => ⟨by rw [h1, hin], n, h2.symm⟩
                replace hin := hid hin
                go_wp2_with (go_quiet ((go_at_call 46; exact hE _)))
                go_ret
                exact ⟨ret_bool hfin.out.symm, Ext.trans (Ext.trans e1 ewq) (hd2.step _).ext⟩
              | true =>
                have hst1 := stOk_lt hin
                obtain ⟨s, hs⟩ := Int.eq_ofNat_of_zero_le hst1.1
                have hsn : s < M.length := by have := hst1.2; rw [hs, Int.toNat_natCast] at this; exact this
                have hjS : j < S.length := by have := hll.out; omega
                have hrow := hid (probB_row hp.out hjS).1
                obtain ⟨b7, o7, d7, m7, rfl, hc7, hr7, _⟩ := hS.at (w' := wr) hjS
                obtain ⟨b8, o8, rfl, hc8⟩ := hr7.at (w' := wr) (k := s) (by rw [hrow.out]; exact hsn)
                have hlt8 : s < (row S j).length := by rw [hrow.out]; exact hsn
                have hlt8' : (s : Int) < ((row S j).length : Int) := by omega
                have hc8' : wr.cell? ⟨b8, o8 + s, none⟩ = some (.int .i64 (cell S j s)) := hc8
                clear hc8
                by_cases hge : 0 ≤ cell S j s
                · have hgood := hid (show stOk M S j (nth (row next k) j) = true by rw [stOk, hin, hs, Int.toNat_natCast, decide_eq_true hge]; rfl)
                  have hge' : decide (cell S j s < 0) = false := by simpa using hge
                  rw [hs] at hin hc6
                  have hE : ∀ n, Calls Try.prog 46 #[.int .i64 (s : Int), .int .i64 0, .int .i64 ((M.length : Int) - 1)] (wr.drewN n) fun e w' => e = .returned (.bool true) ∧ ∃ m, w' = wr.drewN m :=
                    fun n => (l1In_any _ _ _ _).mono fun e w' ⟨h1, h2⟩ => ⟨by rw [h1, hin], n, h2.symm⟩
                  replace hin := hid hin
                  replace hs := hid hs
                  go_wp2_with (go_quiet ((go_at_call 46; exact hE _)))
                  go_roundw
                  case rel =>
                    refine ⟨j + 1, by omega, by go_num, ?_, hd2.step _⟩
                    intro r hr
                    by_cases hrj : r = j
                    · subst hrj; exact hgood.out
                    · exact hst.out r (by omega)
                  case measure => simp [intOf]; omega
                · have hfin := hid (show algB M S next = false from algB_not hlt (rowOk_not hltj (by rw [stOk, hin, hs, Int.toNat_natCast, decide_eq_false hge]; rfl)))
                  have hge' : decide (cell S j s < 0) = true := by simp; omega
                  rw [hs] at hin hc6
                  have hE : ∀ n, Calls Try.prog 46 #[.int .i64 (s : Int), .int .i64 0, .int .i64 ((M.length : Int) - 1)] (wr.drewN n) fun e w' => e = .returned (.bool true) ∧ ∃ m, w' = wr.drewN m :=
                    fun n => (l1In_any _ _ _ _).mono fun e w' ⟨h1, h2⟩ => ⟨by rw [h1, hin], n, h2.symm⟩
                  replace hin := hid hin
                  replace hs := hid hs
                  go_wp2_with (go_quiet ((go_at_call 46; exact hE _)))
                  go_ret
                  exact ⟨ret_bool hfin.out.symm, Ext.trans (Ext.trans e1 ewq) (hd2.step _).ext⟩
            · go_wp2
              go_roundw
              case rel =>
                refine ⟨k + 1, by omega, by go_num, ?_, hd.trans hd2⟩
                intro r hr
                by_cases hrk : r = k
                · subst hrk
                  rw [rowOk, decide_eq_true hll.out, decide_eq_true (fun q hq => hst.out q (by omega))]; rfl
                · exact hok.out r (by omega)
              case measure => simp [intOf]; omega
        · have hll' : (((row next k).length : Int) != S.length) = true := by simp; omega
          have hfin := hid (show algB M S next = false from algB_not hlt (by rw [rowOk, decide_eq_false hll]; rfl))
          replace hll := hid hll
          go_wp2_with (go_quiet (fail))
          go_ret
          exact ⟨ret_bool hfin.out.symm, Ext.trans e1 inferInstance⟩
      · go_wp2
        go_ret
        refine ⟨ret_bool ?_, e1⟩
        have hall : decide (∀ x ∈ next, rowOk M S x = true) = true := by
          rw [decide_eq_true_eq]
          intro x hx'
          obtain ⟨j, hj, rfl⟩ := mem_iff_row.1 hx'
          exact hok.out j (by omega)
        rw [algB, decide_eq_true hl.out, hall]; rfl
  · have hl' : ((next.length : Int) != M.length) = true := by simp; omega
    have hr := hid (show algB M S next = false by rw [algB, decide_eq_false hl]; rfl)
    replace hl := hid hl
    go_enter Try.func45, Try.ntmps45
    go_wp2
    go_ret
    exact ⟨ret_bool hr.out.symm, inferInstance⟩

end Go.Proofs.Ytkniohcmhdgbeaa
