/- Tests of a start state and a sequence. -/
import Derived.Test.YtohjbabjkjcddaaAlg
namespace Go.Proofs.Ytohjbabjkjcddaa
open Go.RowKit

/-- whether all numbers of a list are in 0..n-1 -/
def belowB (n : Int) (l : List Int) : Bool := decide (∀ a ∈ l, inB a 0 (n - 1) = true)
theorem belowB_not {n : Int} {l : List Int} {k : Nat} (hk : k < l.length) (h : inB (nth l k) 0 (n - 1) = false) : belowB n l = false := by
  refine decide_eq_false fun h' => ?_
  rw [h' _ (nth_mem hk)] at h
  cases h
theorem belowB_of {n : Int} {l : List Int} (h : ∀ k, k < l.length → inB (nth l k) 0 (n - 1) = true) : belowB n l = true := by
  refine decide_eq_true fun a ha => ?_
  obtain ⟨k, hk, rfl⟩ := mem_iff_nth.1 ha
  exact h k hk
theorem belowB_at {n : Int} {l : List Int} (h : belowB n l = true) {k : Nat} (hk : k < l.length) : 0 ≤ nth l k ∧ nth l k < n := by
  have := inB_true.1 (of_decide_eq_true h _ (nth_mem hk))
  omega
theorem below_any (n : Int) (l : List Int) : (!l.any fun a => !inB a 0 (n - 1)) = belowB n l := by
  rw [List.not_any_eq_all_not, Bool.eq_iff_iff, List.all_eq_true]
  simp [belowB]

set_option maxHeartbeats 400000 in
theorem areBelow1_any {a n : Int} {B : Nat} {w : World} (hn : w.cell? ⟨B, 0, none⟩ = some (.int .i64 n)) (h0 : 0 ≤ n) (h1 : n ≤ 17592186044415) :
    Calls Try.prog 129 #[.int .i64 a, .pointer (some ⟨B, 0, none⟩)] w fun e w' => e = .returned (.bool (!inB a 0 (n - 1))) ∧ w = w' := by
  go_enter Try.func129, Try.ntmps129
  go_wp2_with (go_at_call 70; refine (within_any _ _ _ _).mono ?_; rintro e w' ⟨rfl, rfl⟩)
  go_ret
  exact ⟨rfl, rfl⟩
theorem areBelow1_call (xa : Array Value) (W : World) : (callFunc 129 xa).run Try.prog W = .ok (.enter 129 xa) W := by kernel_rfl
theorem areBelow1_all {l : List Int} {n : Int} {B : Nat} {w : World} (hn : w.cell? ⟨B, 0, none⟩ = some (.int .i64 n)) (h0 : 0 ≤ n) (h1 : n ≤ 17592186044415) :
    ∀ (W : World), Ext w W → ∀ k, k < l.length → Calls Try.prog 129 (#[.int .i64 (nth l k)] ++ #[.pointer (some ⟨B, 0, none⟩)]) W fun e w' => e = .returned (.bool ((fun a => !inB a 0 (n - 1)) (nth l k))) ∧ Ext W w' := by
  intro W hW k hk
  refine (areBelow1_any (hW.cell hn) h0 h1).mono ?_
  rintro e w' ⟨rfl, rfl⟩
  exact ⟨rfl, Ext.refl _⟩

set_option maxHeartbeats 400000 in
theorem areBelow_any {v : Value} {l : List Int} {n : Int} {w0 w : World} [Ext w0 w] (hl : IsInts w0 v l) (h0 : 0 ≤ n) (h1 : n ≤ 17592186044415) :
    Calls Try.prog 92 #[.int .i64 n, v] w fun e w' => e = .returned (.bool (belowB n l)) ∧ Ext w w' := by
  have hl' := hl
  obtain ⟨a, c, rfl, la⟩ := hl.form
  have hR := hid (below_any n l)
  go_enter Try.func92, Try.ntmps92
  go_wp2_with fail
  generalize hW : w.alloc (.cells #[.int .i64 n] 3) = W1
  have e1 : Ext w W1 := hW ▸ inferInstance
  have e0 : Ext w0 W1 := Ext.trans ‹Ext w0 w› e1
  have x0 : W1.cell? ⟨w.heap.size, 0, none⟩ = some (.int .i64 n) := by subst hW; go_simp
  clear hW
  refine (containsFuncInts_any (w0 := w0) hl' _ _ (fun a => !inB a 0 (n - 1)) areBelow1_call (areBelow1_all x0 h0 h1)).mono ?_
  rintro e w2 ⟨rfl, hb⟩
  generalize hz : (l.any fun a => !inB a 0 (n - 1)) = z at *
  replace hz := hid hz
  go_wp2_with fail
  go_ret
  exact ⟨ret_bool hR.out, Ext.trans e1 hb⟩

/-- whether a list is a sequence of a problem with m requests -/
def seqB (m : Nat) (reqs : List Int) : Bool := decide (reqs.length ≤ 60) && belowB m reqs
def startB (M S : List (List Int)) (start : Int) (reqs : List Int) : Bool := probB M S && inB start 0 (M.length - 1) && seqB S.length reqs

end Go.Proofs.Ytohjbabjkjcddaa
