/- One point of a configuration in the place of another one, in order: the reference's. -/
import Derived.Test.YtpiplhgiphndeaaSrs
namespace Go.Proofs.Ytpiplhgiphndeaa
open Go.RowKit

set_option maxHeartbeats 400000 in
set_option maxRecDepth 100000 in
theorem l7Swap_any {v : Value} {a : List Int} {s : Nat} {r : Int} {w0 w : World} [Ext w0 w] (ha : IsInts w0 v a) (hs : s < a.length) (hr : I64 r) (hl : a.length ≤ 1000) :
    Calls Try.prog 97 #[v, .int .i64 s, .int .i64 r] w fun e w' => ∃ u, e = .returned u ∧ Own w' w.heap.size [intRowOf 3 u (sortL (a.set s r))] ∧ Ext w w' := by
  have ha' := ha
  have hai : ∀ x ∈ a.set s r, I64 x := fun x hx => by
    rcases List.mem_or_eq_of_mem_set hx with h | h
    · obtain ⟨k, hk, rfl⟩ := mem_iff_nth.1 h
      exact ha'.i64 hk
    · rw [h]; exact hr
  replace hai := hid hai
  obtain ⟨da, ma, rfl, la⟩ := ha.form
  go_enter Try.func97, Try.ntmps97
  go_wp2_with fail
  with_reducible refine (l4With_any (w0 := w0) ha' hs).mono ?_
  rintro e w1 ⟨d, m, rfl, own1, e1⟩
  have hsl := hid (show (a.set s r).length = a.length from List.length_set)
  have hi1 : IsInts w1 (.slice d a.length m) (a.set s r) := own1.reads (by unfold Short; rw [hsl.out]; omega) hai.out
  have hl2 : (a.set s r).length ≤ 1000 := by rw [hsl.out]; exact hl
  go_wp2_with fail
  with_reducible refine (l6Sort_any (w0 := w1) (w := w1) hi1 hl2).mono ?_
  rintro e w2 ⟨u, rfl, own2, e2⟩
  go_wp2_with fail
  go_ret
  exact ⟨_, rfl, own2.mono e1.size, Ext.trans e1 e2⟩
end Go.Proofs.Ytpiplhgiphndeaa
