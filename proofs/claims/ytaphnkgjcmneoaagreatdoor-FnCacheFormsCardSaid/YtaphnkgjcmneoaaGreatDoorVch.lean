/- Two caches that read alike are the same. -/
import Derived.Test.YtaphnkgjcmneoaaGreatDoorCtg
import Derived.Test.YtaphnkgjcmneoaaGreatDoorPackB
namespace Go.Proofs.YtaphnkgjcmneoaaGreatDoor
open Go.RowKit

set_option maxHeartbeats 3200000 in
set_option maxRecDepth 100000 in
theorem vCache_same {p z h : Int} {P M : List Int} {d1 d2 d3 d4 : Option Addr} {c1 c2 c3 c4 : Nat} {w0 w : World} [Ext w0 w] (hP : IsInts w0 (.slice d1 P.length c1) P) (hM : IsInts w0 (.slice d2 M.length c2) M) (hP2 : IsInts w0 (.slice d3 P.length c3) P) (hM2 : IsInts w0 (.slice d4 M.length c4) M) :
    Calls Tryz.prog 11 #[.agg #[.int .i64 p, .int .i64 z, .slice d1 P.length c1, .slice d2 M.length c2, .int .i64 h], .agg #[.int .i64 p, .int .i64 z, .slice d3 P.length c3, .slice d4 M.length c4, .int .i64 h]] w fun e w' => e = .returned (.bool true) ∧ Ext w w' := by
  have hV1 := hid (fun (u : World) (e : Ext w0 u) => @vInts_same _ _ P w0 u e hP hP2)
  have hV2 := hid (fun (u : World) (e : Ext w0 u) => @vInts_same _ _ M w0 u e hM hM2)
  obtain ⟨W, hW⟩ : ∃ W, W = w.alloc (.cells #[.int .i64 p, .int .i64 z, .slice d1 P.length c1, .slice d2 M.length c2, .int .i64 h] 26) := ⟨_, rfl⟩
  obtain ⟨V, hV⟩ : ∃ V, V = W.alloc (.cells #[.int .i64 p, .int .i64 z, .slice d3 P.length c3, .slice d4 M.length c4, .int .i64 h] 26) := ⟨_, rfl⟩
  have eW : Ext w W := by rw [hW]; infer_instance
  have eV : Ext W V := by rw [hV]; infer_instance
  have hWs : W.heap.size = w.heap.size + 1 := by rw [hW]; go_simp
  have hA : BX V w.heap.size (.int .i64 p) (.int .i64 z) (.slice d1 P.length c1) (.slice d2 M.length c2) (.int .i64 h) := by
    refine BX.ext ?_ eV
    rw [hW]
    exact BX.alloc w 26 _ _ _ _ _
  have hB : BX V (w.heap.size + 1) (.int .i64 p) (.int .i64 z) (.slice d3 P.length c3) (.slice d4 M.length c4) (.int .i64 h) := by
    rw [← hWs, hV]
    exact BX.alloc W 26 _ _ _ _ _
  have e0 : Ext w V := Ext.trans eW eV
  rw [hW] at hV
  go_enter Tryz.func11, Tryz.ntmps11
  go_upto_region 1 with fail
  rw [← hV]
  replace hV := hid hV
  replace hW := hid hW
  replace hWs := hid hWs
  obtain ⟨a, ha⟩ : ∃ a, a = w.heap.size := ⟨_, rfl⟩
  obtain ⟨b, hb⟩ : ∃ b, b = w.heap.size + 1 := ⟨_, rfl⟩
  rw [← hb] at hB ⊢
  rw [← ha] at hA ⊢
  replace ha := hid ha
  replace hb := hid hb
  have hA' := hA
  have hB' := hB
  obtain ⟨a0, a1, a2, a3, a4, -, -, -, -, -⟩ := hA'
  obtain ⟨b0, b1, b2, b3, b4, -, -, -, -, -⟩ := hB'
  go_wp2_with fail
  refine (hV1.out V (Ext.trans ‹Ext w0 w› e0)).mono ?_
  rintro e w1 ⟨rfl, e1⟩
  clear a0 a1 a2 a3 a4 b0 b1 b2 b3 b4
  have hA1 := hA.ext e1
  have hB1 := hB.ext e1
  have hA' := hA1
  have hB' := hB1
  obtain ⟨a0, a1, a2, a3, a4, -, -, -, -, -⟩ := hA'
  obtain ⟨b0, b1, b2, b3, b4, -, -, -, -, -⟩ := hB'
  have e01 : Ext w w1 := Ext.trans e0 e1
  go_wp2_with fail
  refine (hV2.out w1 (Ext.trans ‹Ext w0 w› e01)).mono ?_
  rintro e w2 ⟨rfl, e2⟩
  clear a0 a1 a2 a3 a4 b0 b1 b2 b3 b4
  have hA2 := hA1.ext e2
  have hB2 := hB1.ext e2
  obtain ⟨a0, a1, a2, a3, a4, -, -, -, -, -⟩ := hA2
  obtain ⟨b0, b1, b2, b3, b4, -, -, -, -, -⟩ := hB2
  have e02 : Ext w w2 := Ext.trans e01 e2
  go_wp2_with fail
  go_ret
  exact ⟨rfl, e02⟩
end Go.Proofs.YtaphnkgjcmneoaaGreatDoor
