/- What the laws compare with, where both sides are equal. -/
import Derived.Test.YtkibmjenjgijmaaGreatGrK
import Derived.Test.YtkibmjenjgijmaaGreatWorkX
namespace Go.Proofs.YtkibmjenjgijmaaGreat
open Go.RowKit

set_option maxHeartbeats 400000 in
theorem rBig_any {v : Value} {n : Nat} {w : World} (hv : IsBytes w v n) :
    Calls Tryz.prog 5 #[v] w fun e w' => e = .returned (.bool (decide (65536 < n))) ∧ w = w' := by
  obtain ⟨a, c, rfl⟩ := hv.form
  by_cases h : 65536 < n
  · go_enter Tryz.func5, Tryz.ntmps5
    go_wp2
    go_ret
    exact ⟨ret_bool (decide_eq_decide.2 (by omega)), rfl⟩
  · go_enter Tryz.func5, Tryz.ntmps5
    go_wp2
    go_ret
    exact ⟨ret_bool (decide_eq_decide.2 (by omega)), rfl⟩

set_option maxHeartbeats 800000 in
set_option maxRecDepth 100000 in
theorem rLeast_any {v vX : Value} {M S : List (List Int)} {X : List Int} {s : Int} {w0 w : World} [Ext w0 w] (hp : IsProb w0 v M S) (hs : I64 s) (hX : IsInts w0 vX X) :
    Calls Tryz.prog 9 #[v, .int .i64 s, vX] w fun e w' => e = .returned (.tuple #[.int .i64 (lcR M S s X), .bool true]) ∧ Ext w w' := by
  have hp' := hp
  obtain ⟨v1, v2, rfl, hM, hS⟩ := hp
  obtain ⟨a1, c1, rfl, l1⟩ := hM.form
  obtain ⟨a2, c2, rfl, l2⟩ := hS.form
  go_enter Tryz.func9, Tryz.ntmps9
  go_upto_region 1 with fail
  generalize hW : w.alloc (.cells #[.slice a1 M.length c1, .slice a2 S.length c2] 32) = W1
  have e1 : Ext w W1 := hW ▸ inferInstance
  have x0 : W1.cell? ⟨w.heap.size, 0, none⟩ = some (.slice a1 M.length c1) := by subst hW; go_simp
  have x1 : W1.cell? ⟨w.heap.size, 1, none⟩ = some (.slice a2 S.length c2) := by subst hW; go_simp
  clear hW
  have e01 : Ext w0 W1 := Ext.trans ‹Ext w0 w› e1
  go_wp2_with fail
  refine (implLC_any (w0 := w0) hp' hs hX).mono ?_
  rintro e w2 ⟨rfl, hb2⟩
  have y0 := hb2.cell x0
  have y1 := hb2.cell x1
  have e02 : Ext w0 w2 := Ext.trans e01 hb2
  go_wp2_with fail
  refine (specLC_any (w0 := w0) hp' hs hX).mono ?_
  rintro e w3 ⟨rfl, hb3⟩
  obtain ⟨z, hz⟩ : ∃ z, z = startB M S s X := ⟨_, rfl⟩
  rw [← hz]
  go_wp2_with fail
  go_ret2
  exact ⟨rfl, Ext.trans e1 (Ext.trans hb2 hb3)⟩
end Go.Proofs.YtkibmjenjgijmaaGreat
