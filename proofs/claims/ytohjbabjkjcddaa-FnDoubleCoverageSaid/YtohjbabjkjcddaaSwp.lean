/- One point of a list in the place of another one: the reference's. -/
import Derived.Test.YtohjbabjkjcddaaSrt
import Derived.Test.YtohjbabjkjcddaaMatS
import Derived.Test.YtohjbabjkjcddaaStep
namespace Go.Proofs.Ytohjbabjkjcddaa
open Go.RowKit

set_option maxHeartbeats 400000 in
set_option maxRecDepth 100000 in
theorem l1Own_any {v : Value} {a : List Int} {w0 w : World} [Ext w0 w] (ha : IsInts w0 v a) :
    Calls Try.prog 53 #[v] w fun e w' => ∃ d m, e = .returned (.slice d a.length m) ∧ Own w' w.heap.size [intRowOf 3 (.slice d a.length m) a] ∧ Ext w w' := by
  have ha' := ha
  obtain ⟨da, ma, rfl, la⟩ := ha.form
  have own0 : Own (w.alloc (.cells #[] 3)) w.heap.size [⟨3, 1, .slice (some ⟨w.heap.size, 0, none⟩) 0 0, 0, []⟩] := Own.litInts (xs := []) (Nat.le_refl _) rfl rfl (by simp) rfl
  have hB : w.heap.size ≤ (w.alloc (.cells #[] 3)).heap.size := by simp
  have e0 : Ext w0 (w.alloc (.cells #[] 3)) := Ext.trans ‹Ext w0 w› inferInstance
  go_enter Try.func53, Try.ntmps53
  go_wp2_with (at_builtin; refine wpList_appendInts rfl _ _ _ rfl elemInt rfl own0 hB rfl (ha'.ext (w' := w.alloc (.cells #[] 3))) (by omega) ?_; intro v1 w1 ho hb1)
  go_ret
  rw [Nat.zero_add, List.nil_append] at ho
  obtain ⟨d, m, rfl⟩ := Own.formInts (e := 3) (xs := a) ho
  exact ⟨d, m, rfl, ho, ⟨((Below.refl _ w).alloc (Nat.le_refl _) _).trans hb1⟩⟩

end Go.Proofs.Ytohjbabjkjcddaa
