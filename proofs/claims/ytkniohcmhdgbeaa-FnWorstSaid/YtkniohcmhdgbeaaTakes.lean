/- Tests of a start state and a sequence. -/
import Derived.Test.YtkniohcmhdgbeaaAlg
namespace Go.Proofs.Ytkniohcmhdgbeaa
open Go.RowKit

/-- whether all numbers of a list are in 0..n-1 -/
def belowB (n : Int) (l : List Int) : Bool := decide (∀ a ∈ l, inB a 0 (n - 1) = true)
theorem belowB_not {n : Int} {l : List Int} {k : Nat} (hk : k < l.length) (h : inB (nth l k) 0 (n - 1) = false) : belowB n l = false := by
  refine decide_eq_false fun h' => ?_
  rw [h' _ (nth_mem hk)] at h
  cases h
theorem belowB_of {n : Int} {l : List Int} (h : ∀ k, k < l.length → inB (nth l k) 0 (n - 1) = true) : belowB n l = true := by
  refine decide_eq_true fun a ha => ?_
  obtain ⟨k, hk, rfl⟩ := mem_iff_nth.1 ha
  exact h k hk
theorem belowB_at {n : Int} {l : List Int} (h : belowB n l = true) {k : Nat} (hk : k < l.length) : 0 ≤ nth l k ∧ nth l k < n := by
  have := inB_true.1 (of_decide_eq_true h _ (nth_mem hk))
  omega
theorem below_any (n : Int) (l : List Int) : (!l.any fun a => !inB a 0 (n - 1)) = belowB n l := by
  rw [List.not_any_eq_all_not, Bool.eq_iff_iff, List.all_eq_true]
  simp [belowB]

set_option maxHeartbeats 400000 in
theorem areBelow1_any {a n : Int} {B : Nat} {w : World} (hn : w.cell? ⟨B, 0, none⟩ = some (.int .i64 n)) (h0 : 0 ≤ n) (h1 : n ≤ 17592186044415) :
    Calls Try.prog 94 #[.int .i64 a, .pointer (some ⟨B, 0, none⟩)] w fun e w' => e = .returned (.bool (!inB a 0 (n - 1))) ∧ w = w' := by
  go_enter Try.func94, Try.ntmps94
  go_wp2_with (go_at_call 38; refine (within_any _ _ _ _).mono ?_; rintro e w' ⟨rfl, rfl⟩)
  go_ret
  exact ⟨rfl, rfl⟩
theorem areBelow1_call (xa : Array Value) (W : World) : (callFunc 94 xa).run Try.prog W = .ok (.enter 94 xa) W := by kernel_rfl
theorem areBelow1_all {l : List Int} {n : Int} {B : Nat} {w : World} (hn : w.cell? ⟨B, 0, none⟩ = some (.int .i64 n)) (h0 : 0 ≤ n) (h1 : n ≤ 17592186044415) :
    ∀ (W : World), Ext w W → ∀ k, k < l.length → Calls Try.prog 94 (#[.int .i64 (nth l k)] ++ #[.pointer (some ⟨B, 0, none⟩)]) W fun e w' => e = .returned (.bool ((fun a => !inB a 0 (n - 1)) (nth l k))) ∧ Ext W w' := by
  intro W hW k hk
  refine (areBelow1_any (hW.cell hn) h0 h1).mono ?_
  rintro e w' ⟨rfl, rfl⟩
  exact ⟨rfl, Ext.refl _⟩

set_option maxHeartbeats 400000 in
theorem areBelow_any {v : Value} {l : List Int} {n : Int} {w0 w : World} [Ext w0 w] (hl : IsInts w0 v l) (h0 : 0 ≤ n) (h1 : n ≤ 17592186044415) :
    Calls Try.prog 60 #[.int .i64 n, v] w fun e w' => e = .returned (.bool (belowB n l)) ∧ Ext w w' := by
  have hl' := hl
  obtain ⟨a, c, rfl, la⟩ := hl.form
  have hR := hid (below_any n l)
  go_enter Try.func60, Try.ntmps60
  go_wp2_with fail
  generalize hW : w.alloc (.cells #[.int .i64 n] 3) = W1
  have e1 : Ext w W1 := hW ▸ inferInstance
  have e0 : Ext w0 W1 := Ext.trans ‹Ext w0 w› e1
  have x0 : W1.cell? ⟨w.heap.size, 0, none⟩ = some (.int .i64 n) := by subst hW; go_simp
  clear hW
  refine (containsFuncInts_any (w0 := w0) hl' _ _ (fun a => !inB a 0 (n - 1)) areBelow1_call (areBelow1_all x0 h0 h1)).mono ?_
  rintro e w2 ⟨rfl, hb⟩
  generalize hz : (l.any fun a => !inB a 0 (n - 1)) = z at *
  replace hz := hid hz
  go_wp2_with fail
  go_ret
  exact ⟨ret_bool hR.out, Ext.trans e1 hb⟩

/-- whether a list is a sequence of a problem with m requests -/
def seqB (m : Nat) (reqs : List Int) : Bool := decide (reqs.length ≤ 60) && belowB m reqs
def startB (M S : List (List Int)) (start : Int) (reqs : List Int) : Bool := probB M S && inB start 0 (M.length - 1) && seqB S.length reqs

set_option maxHeartbeats 400000 in
theorem isSequence_any {v1 v2 v3 : Value} {M S : List (List Int)} {reqs : List Int} {w0 w : World} [Ext w0 w] (hM : IsRows w0 v1 M) (hS : IsRows w0 v2 S) (hx : IsInts w0 v3 reqs) :
    Calls Try.prog 79 #[.agg #[v1, v2], v3] w fun e w' => e = .returned (.bool (seqB S.length reqs)) ∧ Ext w w' := by
  have hx' := hx
  obtain ⟨a1, c1, rfl, l1⟩ := hM.form
  obtain ⟨a2, c2, rfl, l2⟩ := hS.form
  obtain ⟨a3, c3, rfl, l3⟩ := hx.form
  by_cases h : reqs.length ≤ 60
  · have h' : decide ((reqs.length : Int) ≤ 60) = true := by simp; omega
    have hr := hid (show seqB S.length reqs = belowB S.length reqs by rw [seqB, decide_eq_true h]; rfl)
    go_enter Try.func79, Try.ntmps79
    go_wp2_with (go_at_call 60; refine (areBelow_any (w0 := w0) hx' (by omega) (by omega)).mono ?_; rintro e w1 ⟨rfl, hb⟩)
    go_ret
    exact ⟨ret_bool hr.out.symm, Ext.trans inferInstance hb⟩
  · have h' : decide ((reqs.length : Int) ≤ 60) = false := by simp; omega
    have hr := hid (show seqB S.length reqs = false by rw [seqB, decide_eq_false h]; rfl)
    go_enter Try.func79, Try.ntmps79
    go_wp2_with fail
    go_ret
    exact ⟨ret_bool hr.out.symm, inferInstance⟩

set_option maxHeartbeats 800000 in
theorem isStarted_any {v v3 : Value} {M S : List (List Int)} {start : Int} {reqs : List Int} {w0 w : World} [Ext w0 w] (hp : IsProb w0 v M S) (hx : IsInts w0 v3 reqs) :
    Calls Try.prog 36 #[v, .int .i64 start, v3] w fun e w' => e = .returned (.bool (startB M S start reqs)) ∧ Ext w w' := by
  have hp' := hp
  have hx' := hx
  obtain ⟨v1, v2, rfl, hM, hS⟩ := hp
  have hM' := hM
  have hS' := hS
  obtain ⟨a1, c1, rfl, l1⟩ := hM.form
  obtain ⟨a2, c2, rfl, l2⟩ := hS.form
  obtain ⟨a3, c3, rfl, l3⟩ := hx.form
  cases hB : probB M S with
  | false =>
    have hr := hid (show startB M S start reqs = false by simp [startB, hB])
    replace hB := hid hB
    go_enter Try.func36, Try.ntmps36
    go_wp2_with fail
    refine (IsProblem_any (w0 := w0) hp').mono ?_; rw [hB.out]; rintro e w1 ⟨rfl, hb1⟩
    go_wp2_with fail
    go_ret
    exact ⟨ret_bool hr.out.symm, Ext.trans inferInstance hb1⟩
  | true =>
    replace hB := hid hB
    cases hin : inB start 0 (M.length - 1) with
    | false =>
      have hr := hid (show startB M S start reqs = false by simp [startB, hin])
      replace hin := hid hin
      go_enter Try.func36, Try.ntmps36
      go_wp2_with fail
      refine (IsProblem_any (w0 := w0) hp').mono ?_; rw [hB.out]; rintro e w1 ⟨rfl, hb1⟩
      have x0 : w1.cell? ⟨w.heap.size, 0, none⟩ = some (.slice a1 M.length c1) := hb1.cell (by go_simp)
      have x1 : w1.cell? ⟨w.heap.size, 1, none⟩ = some (.slice a2 S.length c2) := hb1.cell (by go_simp)
      have e1 : Ext w w1 := Ext.trans inferInstance hb1
      clear hb1
      go_wp2_with fail
      refine (isState_any hM' hS').mono ?_; rw [hin.out]; rintro e w2 ⟨rfl, hb2⟩
      go_wp2_with fail
      go_ret
      exact ⟨ret_bool hr.out.symm, Ext.trans e1 hb2⟩
    | true =>
      have hr := hid (show startB M S start reqs = seqB S.length reqs by simp [startB, hB.out, hin])
      replace hin := hid hin
      go_enter Try.func36, Try.ntmps36
      go_wp2_with fail
      refine (IsProblem_any (w0 := w0) hp').mono ?_; rw [hB.out]; rintro e w1 ⟨rfl, hb1⟩
      have x0 : w1.cell? ⟨w.heap.size, 0, none⟩ = some (.slice a1 M.length c1) := hb1.cell (by go_simp)
      have x1 : w1.cell? ⟨w.heap.size, 1, none⟩ = some (.slice a2 S.length c2) := hb1.cell (by go_simp)
      have e1 : Ext w w1 := Ext.trans inferInstance hb1
      clear hb1
      go_wp2_with fail
      refine (isState_any hM' hS').mono ?_; rw [hin.out]; rintro e w2 ⟨rfl, hb2⟩
      replace x0 := hb2.cell x0
      replace x1 := hb2.cell x1
      have e2 : Ext w w2 := Ext.trans e1 hb2
      have e0 : Ext w0 w2 := Ext.trans ‹Ext w0 w› e2
      clear hb2
      go_wp2_with fail
      refine (isSequence_any (w0 := w0) hM' hS' hx').mono ?_; rintro e w3 ⟨rfl, hb3⟩
      go_wp2_with fail
      go_ret
      exact ⟨ret_bool hr.out.symm, Ext.trans e2 hb3⟩

set_option maxHeartbeats 1000000 in
set_option maxRecDepth 100000 in
theorem l8Takes_any {v v3 : Value} {M S : List (List Int)} {start : Int} {reqs : List Int} {w0 w : World} [Ext w0 w] (hp : IsProb w0 v M S) (hx : IsInts w0 v3 reqs) :
    Calls Try.prog 44 #[v, .int .i64 start, v3] w fun e w' => e = .returned (.bool (startB M S start reqs)) ∧ Ext w w' := by
  have hp' := hp
  obtain ⟨v1, v2, rfl, hM, hS⟩ := hp
  obtain ⟨a1, c1, rfl, l1⟩ := hM.form
  obtain ⟨a2, c2, rfl, l2⟩ := hS.form
  obtain ⟨a3, c3, rfl, l3⟩ := hx.form
  cases hB : probB M S with
  | false =>
    have hr := hid (show startB M S start reqs = false by simp [startB, hB])
    replace hB := hid hB
    go_enter Try.func44, Try.ntmps44
    go_wp2_with fail
    refine (l8Good_any (w0 := w0) hp').mono ?_; rw [hB.out]; rintro e w1 ⟨rfl, hb1⟩
    go_wp2_with fail
    go_ret
    exact ⟨ret_bool hr.out.symm, Ext.trans inferInstance hb1⟩
  | true =>
    replace hB := hid hB
    cases hin : inB start 0 (M.length - 1) with
    | false =>
      have hr := hid (show startB M S start reqs = false by simp [startB, hin])
      replace hin := hid hin
      go_enter Try.func44, Try.ntmps44
      go_wp2_with fail
      refine (l8Good_any (w0 := w0) hp').mono ?_; rw [hB.out]; rintro e w1 ⟨rfl, hb1⟩
      have x0 : w1.cell? ⟨w.heap.size, 0, none⟩ = some (.slice a1 M.length c1) := hb1.cell (by go_simp)
      have e1 : Ext w w1 := Ext.trans inferInstance hb1
      clear hb1
      go_wp2_with fail
      refine (l1In_any _ _ _ _).mono ?_; rw [hin.out]; rintro e w2 ⟨rfl, rfl⟩
      go_wp2_with fail
      go_ret
      exact ⟨ret_bool hr.out.symm, e1⟩
    | true =>
      by_cases hlen : reqs.length ≤ 60
      · have hlen' : decide ((60 : Int) < (reqs.length : Int)) = false := by simp; omega
        have hs := hid (show startB M S start reqs = belowB S.length reqs by simp [startB, hB.out, hin, seqB, hlen])
        replace hin := hid hin
        go_enter Try.func44, Try.ntmps44
        go_wp2_with fail
        refine (l8Good_any (w0 := w0) hp').mono ?_; rw [hB.out]; rintro e w1 ⟨rfl, hb1⟩
        have x0 : w1.cell? ⟨w.heap.size, 0, none⟩ = some (.slice a1 M.length c1) := hb1.cell (by go_simp)
        have x1 : w1.cell? ⟨w.heap.size, 1, none⟩ = some (.slice a2 S.length c2) := hb1.cell (by go_simp)
        have e1 : Ext w w1 := Ext.trans inferInstance hb1
        clear hb1
        go_wp2_with fail
        refine (l1In_any _ _ _ _).mono ?_; rw [hin.out]; rintro e w2 ⟨rfl, rfl⟩
        go_wp2_with fail
        go_loopw [7] (fun i wr => ∃ k : Nat, k ≤ reqs.length ∧ i = .int .i64 k ∧ Hid (∀ j, j < k → inB (nth reqs j) 0 ((S.length : Int) - 1) = true) ∧ Drew w1 wr) (fun i _ => reqs.length - (intOf i).toNat)
        case atStart => exact ⟨0, by omega, rfl, by intro r hr; omega, Drew.refl _⟩
        case round =>
          obtain ⟨k, hk, rfl, hok, hd⟩ := hrel
          have y1 := hd.ext.cell x1
          by_cases hlt : k < reqs.length
          · have e0 : Ext w0 wr := Ext.trans ‹Ext w0 w› (Ext.trans e1 hd.ext)
            obtain ⟨b3, o3, rfl, hc3⟩ := hx.at (w' := wr) hlt
            cases hq : inB (nth reqs k) 0 ((S.length : Int) - 1) with
            | false =>
              have hE : ∀ n, Calls Try.prog 46 #[.int .i64 (nth reqs k), .int .i64 0, .int .i64 ((S.length : Int) - 1)] (wr.drewN n) fun e w' => e = .returned (.bool false) ∧ ∃ m, w' = wr.drewN m :=
                fun n => (l1In_any _ _ _ _).mono fun e w' ⟨h1, h2⟩ => ⟨by rw [h1, hq], n, h2.symm⟩
              have hfin := hid (belowB_not hlt hq)
              replace hq := hid hq
              go_wp2_with (go_quiet ((go_at_call 46; exact hE _)))
              go_ret
              exact ⟨ret_bool (by rw [hs.out, hfin.out]), Ext.trans e1 (hd.step _).ext⟩
            | true =>
              have hE : ∀ n, Calls Try.prog 46 #[.int .i64 (nth reqs k), .int .i64 0, .int .i64 ((S.length : Int) - 1)] (wr.drewN n) fun e w' => e = .returned (.bool true) ∧ ∃ m, w' = wr.drewN m :=
                fun n => (l1In_any _ _ _ _).mono fun e w' ⟨h1, h2⟩ => ⟨by rw [h1, hq], n, h2.symm⟩
              replace hq := hid hq
              go_wp2_with (go_quiet ((go_at_call 46; exact hE _)))
              go_roundw
              case rel =>
                refine ⟨k + 1, by omega, by go_num, ?_, hd.step _⟩
                intro j hj
                by_cases hjk : j = k
                · subst hjk; exact hq.out
                · exact hok.out j (by omega)
              case measure => simp [intOf]; omega
          · go_wp2
            go_ret
            exact ⟨ret_bool (by rw [hs.out, belowB_of (fun j hj => hok.out j (by omega))]), Ext.trans e1 hd.ext⟩
      · have hlen' : decide ((60 : Int) < (reqs.length : Int)) = true := by simp; omega
        have hr := hid (show startB M S start reqs = false by simp [startB, seqB, hlen])
        replace hin := hid hin
        go_enter Try.func44, Try.ntmps44
        go_wp2_with fail
        refine (l8Good_any (w0 := w0) hp').mono ?_; rw [hB.out]; rintro e w1 ⟨rfl, hb1⟩
        have x0 : w1.cell? ⟨w.heap.size, 0, none⟩ = some (.slice a1 M.length c1) := hb1.cell (by go_simp)
        have e1 : Ext w w1 := Ext.trans inferInstance hb1
        clear hb1
        go_wp2_with fail
        refine (l1In_any _ _ _ _).mono ?_; rw [hin.out]; rintro e w2 ⟨rfl, rfl⟩
        go_wp2_with fail
        go_ret
        exact ⟨ret_bool hr.out.symm, e1⟩

end Go.Proofs.Ytkniohcmhdgbeaa
