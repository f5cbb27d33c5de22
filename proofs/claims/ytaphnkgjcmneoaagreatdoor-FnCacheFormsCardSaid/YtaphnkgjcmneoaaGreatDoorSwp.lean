/- One point of a list in the place of another one: the reference's. -/
import Derived.Test.YtaphnkgjcmneoaaGreatDoorPackB
import Derived.Test.YtaphnkgjcmneoaaGreatDoorMatS
namespace Go.Proofs.YtaphnkgjcmneoaaGreatDoor
open Go.RowKit

set_option maxHeartbeats 400000 in
set_option maxRecDepth 100000 in
theorem l1Own_any {v : Value} {a : List Int} {w0 w : World} [Ext w0 w] (ha : IsInts w0 v a) :
    Calls Tryz.prog 84 #[v] w fun e w' => ∃ d m, e = .returned (.slice d a.length m) ∧ Own w' w.heap.size [intRowOf 3 (.slice d a.length m) a] ∧ Ext w w' := by
  have ha' := ha
  obtain ⟨da, ma, rfl, la⟩ := ha.form
  have own0 : Own (w.alloc (.cells #[] 3)) w.heap.size [⟨3, 1, .slice (some ⟨w.heap.size, 0, none⟩) 0 0, 0, []⟩] := Own.litInts (xs := []) (Nat.le_refl _) rfl rfl (by simp) rfl
  have hB : w.heap.size ≤ (w.alloc (.cells #[] 3)).heap.size := by simp
  have e0 : Ext w0 (w.alloc (.cells #[] 3)) := Ext.trans ‹Ext w0 w› inferInstance
  go_enter Tryz.func84, Tryz.ntmps84
  go_wp2_with (at_builtin; refine wpList_appendInts rfl _ _ _ rfl elemInt rfl own0 hB rfl (ha'.ext (w' := w.alloc (.cells #[] 3))) (by omega) ?_; intro v1 w1 ho hb1)
  go_ret
  rw [Nat.zero_add, List.nil_append] at ho
  obtain ⟨d, m, rfl⟩ := Own.formInts (e := 3) (xs := a) ho
  exact ⟨d, m, rfl, ho, ⟨((Below.refl _ w).alloc (Nat.le_refl _) _).trans hb1⟩⟩

set_option maxHeartbeats 400000 in
set_option maxRecDepth 100000 in
theorem l4With_any {v : Value} {a : List Int} {s : Nat} {r : Int} {w0 w : World} [Ext w0 w] (ha : IsInts w0 v a) (hs : s < a.length) :
    Calls Tryz.prog 96 #[v, .int .i64 s, .int .i64 r] w fun e w' => ∃ d m, e = .returned (.slice d a.length m) ∧ Own w' w.heap.size [intRowOf 3 (.slice d a.length m) (a.set s r)] ∧ Ext w w' := by
  have ha' := ha
  obtain ⟨da, ma, rfl, la⟩ := ha.form
  go_enter Tryz.func96, Tryz.ntmps96
  go_wp2_with fail
  with_reducible refine (l1Own_any (w0 := w0) ha').mono ?_
  rintro e w1 ⟨d, m, rfl, own1, e1⟩
  obtain ⟨g, rfl⟩ := own1.at (j := 0) (show 0 < a.length by omega)
  have c1 : w1.cell? ⟨g, s, none⟩ = some (.int .i64 (nth a s)) := by
    rw [own1.cellAt (w' := w1) hs]; simp [nth, hs]
  have f1 := own1.frozenAt s
  have own2 := own1.set s (.int .i64 r)
  have b2 : Below w.heap.size w (w1.setCell ⟨g, s, none⟩ (.int .i64 r)) := e1.below.setCell own1.lt.1 _
  rw [← List.map_set] at own2
  have eX : (⟨3, 1, .slice (some ⟨g, 0, none⟩) a.length m, a.length, (a.set s r).map (Value.int .i64)⟩ : Row) = intRowOf 3 (.slice (some ⟨g, 0, none⟩) a.length m) (a.set s r) := by unfold intRowOf; rw [List.length_set]
  rw [eX] at own2
  replace eX := hid eX
  go_wp2_with fail
  go_ret
  exact ⟨_, _, rfl, own2, ⟨b2⟩⟩
end Go.Proofs.YtaphnkgjcmneoaaGreatDoor
