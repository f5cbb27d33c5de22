/- Places in lists of a cache. -/
import Derived.Test.YtaphnkgjcmneoaaGreatDoorSwp
import Derived.Test.YtaphnkgjcmneoaaGreatDoorCjd
import Derived.BigQuiet
namespace Go.Proofs.YtaphnkgjcmneoaaGreatDoor
open Go.RowKit

set_option maxHeartbeats 1600000 in
theorem l4At_any {v : Value} {a : List Int} {x : Int} {w0 w : World} [Ext w0 w] (ha : IsInts w0 v a) :
    Calls Tryz.prog 81 #[v, .int .i64 x] w fun e w' => ∃ r : Int, e = .returned (.int .i64 r) ∧ -1 ≤ r ∧ r < a.length ∧ Ext w w' := by
  have ha' := ha
  obtain ⟨da, ma, rfl, la⟩ := ha.form
  go_enter Tryz.func81, Tryz.ntmps81
  go_upto_region 2 with fail
  go_loopw [5] (fun iv wr => ∃ i : Nat, i ≤ a.length ∧ iv = .int .i64 i ∧ Ext w wr) (fun iv _ => a.length - (intOf iv).toNat)
  case atStart => exact ⟨0, by omega, rfl, Ext.refl _⟩
  case round =>
    obtain ⟨i, hi, rfl, he⟩ := hrel
    obtain ⟨wo, rfl⟩ : ∃ y : World, y = wr := ⟨_, rfl⟩
    have e0 : Ext w0 wo := Ext.trans ‹Ext w0 w› he
    by_cases hlt : i < a.length
    · obtain ⟨b, o, hd, hc⟩ := ha'.at (w' := wo) hlt
      cases hd
      by_cases hx : nth a i = x
      · have hx' : (nth a i == x) = true := beq_iff_eq.2 hx
        replace hx := hid hx
        go_wp2_with fail
        go_ret
        exact ⟨_, rfl, by omega, by omega, he⟩
      · have hx' : (nth a i == x) = false := beq_eq_false_iff_ne.2 hx
        replace hx := hid hx
        go_wp2_with fail
        go_roundw
        case rel => exact ⟨i + 1, by omega, by go_num, he⟩
        case measure => simp [intOf]; omega
    · go_wp2_with fail
      go_ret
      exact ⟨_, rfl, by omega, by omega, he⟩
set_option maxHeartbeats 1600000 in
theorem l4Front_any {v : Value} {a : List Int} {x : Int} {w0 w : World} [Ext w0 w] (ha : IsInts w0 v a) (hl : a.length ≤ 1000000) :
    Calls Tryz.prog 94 #[v, .int .i64 x] w fun e w' => ∃ d m, e = .returned (.slice d (x :: a).length m) ∧ Own w' w.heap.size [intRowOf 3 (.slice d (x :: a).length m) (x :: a)] ∧ Ext w w' := by
  have ha' := ha
  obtain ⟨da, ma, rfl, la⟩ := ha.form
  have own0 : Own (w.alloc (.cells #[.int .i64 x] 3)) w.heap.size [⟨3, 1, .slice (some ⟨w.heap.size, 0, none⟩) 1 1, 1, [.int .i64 x]⟩] := Own.litInts (xs := [x]) (Nat.le_refl _) rfl rfl (by simp) rfl
  have hB : w.heap.size ≤ (w.alloc (.cells #[.int .i64 x] 3)).heap.size := by simp
  have e0 : Ext w0 (w.alloc (.cells #[.int .i64 x] 3)) := Ext.trans ‹Ext w0 w› inferInstance
  go_enter Tryz.func94, Tryz.ntmps94
  go_wp2_with (at_builtin; refine wpList_appendInts rfl _ _ _ rfl elemInt rfl own0 hB rfl (ha'.ext (w' := w.alloc (.cells #[.int .i64 x] 3))) (by omega) ?_; intro v1 w1 ho hb1)
  go_ret
  have ho2 : Own w1 w.heap.size [intRowOf 3 v1 (x :: a)] := by
    unfold intRowOf
    rw [show (x :: a).length = 1 + a.length by simp; omega]
    exact ho
  obtain ⟨d, m, hv⟩ := ho2.form
  simp only at hv
  subst hv
  exact ⟨d, m, rfl, ho2, ⟨((Below.refl _ w).alloc (Nat.le_refl _) _).trans hb1⟩⟩
set_option maxHeartbeats 1600000 in
theorem l4Rarest_any {v : Value} {a : List Int} {w0 w : World} [Ext w0 w] (ha : IsInts w0 v a) (h1 : 1 ≤ a.length) :
    Calls Tryz.prog 124 #[v] w fun e w' => ∃ r : Nat, e = .returned (.int .i64 r) ∧ r < a.length ∧ Ext w w' := by
  have ha' := ha
  obtain ⟨da, ma, rfl, la⟩ := ha.form
  go_enter Tryz.func124, Tryz.ntmps124
  go_upto_region 3 with fail
  go_loopw [3, 4] (fun rv iv wr => ∃ (r i : Nat), r < a.length ∧ i ≤ a.length ∧ rv = .int .i64 r ∧ iv = .int .i64 i ∧ Ext w wr) (fun _ iv _ => a.length - (intOf iv).toNat)
  case atStart => exact ⟨0, 1, by omega, by omega, rfl, rfl, Ext.refl _⟩
  case round =>
    obtain ⟨r, i, hr, hi, rfl, rfl, he⟩ := hrel
    obtain ⟨wo, rfl⟩ : ∃ y : World, y = wr := ⟨_, rfl⟩
    have e0 : Ext w0 wo := Ext.trans ‹Ext w0 w› he
    by_cases hlt : i < a.length
    · obtain ⟨b, o, hd, hc⟩ := ha'.at (w' := wo) hlt
      cases hd
      obtain ⟨b2, o2, hd2, hc2⟩ := ha'.at (w' := wo) hr
      cases hd2
      by_cases hx : nth a i ≤ nth a r
      · go_wp2_with (go_quiet (fail))
        go_roundw
        case rel => exact ⟨i, i + 1, by omega, by omega, rfl, by go_num, Ext.trans he inferInstance⟩
        case measure => simp [intOf]; omega
      · go_wp2_with (go_quiet (fail))
        go_roundw
        case rel => exact ⟨r, i + 1, by omega, by omega, rfl, by go_num, Ext.trans he inferInstance⟩
        case measure => simp [intOf]; omega
    · go_wp2_with fail
      go_ret
      exact ⟨_, rfl, by omega, he⟩
end Go.Proofs.YtaphnkgjcmneoaaGreatDoor
