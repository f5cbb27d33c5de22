/- A copy of a cache. -/
import Derived.Test.YtaphnkgjcmneoaaGreatDoorSwp
import Derived.Test.YtaphnkgjcmneoaaGreatDoorCjd
namespace Go.Proofs.YtaphnkgjcmneoaaGreatDoor
open Go.RowKit

/-- a cache's value -/
def cvl (p z : Int) (dP : Option Addr) (nP cP : Nat) (dM : Option Addr) (nM cM : Nat) (h : Int) : Value := .agg #[.int .i64 p, .int .i64 z, .slice dP nP cP, .slice dM nM cM, .int .i64 h]
theorem res_bx1 {fn : Func} {t : Tmp} (h : fn.results = #[.cell t 26]) {tmps : Array Value} {w : World} {c : Nat} {a0 a1 a2 a3 a4 : Value} (hp : tmps.getD t undef = .pointer (some ⟨c, 0, none⟩)) (hb : BX w c a0 a1 a2 a3 a4) :
    (results fn tmps).run Tryz.prog w = .ok (.agg #[a0, a1, a2, a3, a4]) w := by
  obtain ⟨r0, r1, r2, r3, r4, _, _, _, _, _⟩ := hb
  have hp' : tmps[t]?.getD undef = .pointer (some ⟨c, 0, none⟩) := by simpa using hp
  simp [results, h, hp', go_sem, r0, r1, r2, r3, r4]
set_option maxHeartbeats 3200000 in
theorem l4Copy_any {p z h : Int} {P M : List Int} {dP dM : Option Addr} {cP cM : Nat} {w0 w : World} [Ext w0 w] (hP : IsInts w0 (.slice dP P.length cP) P) (hM : IsInts w0 (.slice dM M.length cM) M) :
    Calls Tryz.prog 65 #[.agg #[.int .i64 p, .int .i64 z, .slice dP P.length cP, .slice dM M.length cM, .int .i64 h]] w fun e w' => ∃ d1 m1 d2 m2, e = .returned (.agg #[.int .i64 p, .int .i64 z, .slice d1 P.length m1, .slice d2 M.length m2, .int .i64 h]) ∧ Own w' w.heap.size [intRowOf 3 (.slice d1 P.length m1) P, intRowOf 3 (.slice d2 M.length m2) M] ∧ Ext w w' := by
  have hO1 := hid (fun (u : World) (e : Ext w0 u) => @l1Own_any _ P w0 u e hP)
  have hO2 := hid (fun (u : World) (e : Ext w0 u) => @l1Own_any _ M w0 u e hM)
  obtain ⟨W, hW⟩ : ∃ W, W = (w.alloc (.cells #[.int .i64 p, .int .i64 z, .slice dP P.length cP, .slice dM M.length cM, .int .i64 h] 26)).alloc (.cells #[.int .i64 0, .int .i64 0, .slice none 0 0, .slice none 0 0, .int .i64 0] 26) := ⟨_, rfl⟩
  go_enter Tryz.func65, Tryz.ntmps65
  go_upto_region 1 with fail
  rw [← hW]
  have eW : Ext w W := by rw [hW]; infer_instance
  have hWs : W.heap.size = w.heap.size + 2 := by rw [hW]; go_simp
  have hA : BX W w.heap.size (.int .i64 p) (.int .i64 z) (.slice dP P.length cP) (.slice dM M.length cM) (.int .i64 h) := by
    rw [hW]
    exact (BX.alloc w 26 (.int .i64 p) (.int .i64 z) (.slice dP P.length cP) (.slice dM M.length cM) (.int .i64 h)).ext inferInstance
  have hRB : BX W (w.heap.size + 1) (.int .i64 0) (.int .i64 0) (.slice none 0 0) (.slice none 0 0) (.int .i64 0) := by
    have h1 := BX.alloc (w.alloc (.cells #[.int .i64 p, .int .i64 z, .slice dP P.length cP, .slice dM M.length cM, .int .i64 h] 26)) 26 (.int .i64 0) (.int .i64 0) (.slice none 0 0) (.slice none 0 0) (.int .i64 0)
    rw [show (w.alloc (.cells #[.int .i64 p, .int .i64 z, .slice dP P.length cP, .slice dM M.length cM, .int .i64 h] 26)).heap.size = w.heap.size + 1 by go_simp] at h1
    rw [hW]
    exact h1
  replace hW := hid hW
  obtain ⟨V, hV⟩ : ∃ V, V = W.alloc (.cells #[.int .i64 p, .int .i64 z, .slice dP P.length cP, .slice dM M.length cM, .int .i64 h] 26) := ⟨_, rfl⟩
  have eV : Ext W V := by rw [hV]; infer_instance
  have hB0 : BX V (w.heap.size + 2) (.int .i64 p) (.int .i64 z) (.slice dP P.length cP) (.slice dM M.length cM) (.int .i64 h) := by rw [hV, ← hWs]; exact BX.alloc _ _ _ _ _ _ _
  have hVs : V.heap.size = w.heap.size + 3 := by rw [hV]; go_simp
  have hA1 := hA.ext eV
  have hR1 := hRB.ext eV
  have xV : Ext w0 V := Ext.trans ‹Ext w0 w› (Ext.trans eW eV)
  obtain ⟨b0, b1, b2, b3, b4, k0, k1, k2, k3, k4⟩ := hA
  go_upto_region 2 with fail
  rw [← hV]
  replace hV := hid hV
  replace hWs := hid hWs
  clear b0 b1 b2 b3 b4 k0 k1 k2 k3 k4 hRB
  have hA1' := hA1
  obtain ⟨b0, b1, b2, b3, b4, k0, k1, k2, k3, k4⟩ := hA1'
  go_wp2_with fail
  refine (hO1.out V xV).mono ?_
  rintro e w1 ⟨d1, m1, rfl, own1, e1⟩
  obtain ⟨c, hc⟩ : ∃ c, c = w.heap.size + 2 := ⟨_, rfl⟩
  rw [← hc] at hB0
  have hcV : c < V.heap.size := by omega
  have hwc : w.heap.size ≤ c := by omega
  have hB1 := hB0.ext e1
  have hA2 := hA1.ext e1
  have hR2 := hR1.ext e1
  obtain ⟨U, hU⟩ : ∃ U, U = w1.setCell ⟨c, 2, none⟩ (.slice d1 P.length m1) := ⟨_, rfl⟩
  have hB2 := hB1.set2 (.slice d1 P.length m1)
  have hA3 := hA2.other (p := ⟨c, 2, none⟩) (by show c ≠ _; omega) (.slice d1 P.length m1)
  have hR3 := hR2.other (p := ⟨c, 2, none⟩) (by show c ≠ _; omega) (.slice d1 P.length m1)
  have own2 := own1.setBelow (p := ⟨c, 2, none⟩) hcV (.slice d1 P.length m1)
  have eU : Ext w (w1.setCell ⟨c, 2, none⟩ (.slice d1 P.length m1)) := @Ext.set _ _ (Ext.trans (Ext.trans eW eV) e1) ⟨c, 2, none⟩ hwc _
  have hUs : V.heap.size ≤ (w1.setCell ⟨c, 2, none⟩ (.slice d1 P.length m1)).heap.size := by
    rw [show (w1.setCell ⟨c, 2, none⟩ (.slice d1 P.length m1)).heap.size = w1.heap.size by go_simp]
    exact e1.below.size
  rw [← hU] at hB2 hA3 hR3 own2 eU hUs
  clear b0 b1 b2 b3 b4 k0 k1 k2 k3 k4
  obtain ⟨b0, b1, b2, b3, b4, k0, k1, k2, k3, k4⟩ := hB1
  rw [← hc]
  replace hc := hid hc
  go_upto_region 3 with fail
  rw [← hU]
  replace hU := hid hU
  clear b0 b1 b2 b3 b4 k0 k1 k2 k3 k4 hB0 hA1 hR1 hA2 hR2
  have hA3' := hA3
  obtain ⟨b0, b1, b2, b3, b4, k0, k1, k2, k3, k4⟩ := hA3'
  go_wp2_with fail
  refine (hO2.out U (Ext.trans ‹Ext w0 w› eU)).mono ?_
  rintro e w2 ⟨d2, m2, rfl, own3, e2⟩
  have hB3 := hB2.ext e2
  have hR4 := hR3.ext e2
  have own4 := (Own.join (w := U) (w' := w2) own2 own3 hUs).perm (List.Perm.swap _ _ _)
  have hB4 := hB3.set3 (.slice d2 M.length m2)
  have hR5 := hR4.other (p := ⟨c, 3, none⟩) (by rw [hc.out]; show w.heap.size + 2 ≠ _; omega) (.slice d2 M.length m2)
  have own5 := own4.setBelow (p := ⟨c, 3, none⟩) hcV (.slice d2 M.length m2)
  have eX : Ext w (w2.setCell ⟨c, 3, none⟩ (.slice d2 M.length m2)) := @Ext.set _ _ (Ext.trans eU e2) ⟨c, 3, none⟩ hwc _
  clear b0 b1 b2 b3 b4 k0 k1 k2 k3 k4
  have hB3' := hB3
  obtain ⟨b0, b1, b2, b3, b4, k0, k1, k2, k3, k4⟩ := hB3'
  obtain ⟨X, hX⟩ : ∃ X, X = w2.setCell ⟨c, 3, none⟩ (.slice d2 M.length m2) := ⟨_, rfl⟩
  rw [← hX] at hB4 hR5 own5 eX
  go_upto_region 4 with fail
  rw [← hX]
  replace hX := hid hX
  clear b0 b1 b2 b3 b4 k0 k1 k2 k3 k4
  have hZ := ((((hR5.set0 (.int .i64 p)).set1 (.int .i64 z)).set2 (.slice d1 P.length m1)).set3 (.slice d2 M.length m2)).set4 (.int .i64 h)
  have hr : w.heap.size + 1 < V.heap.size := by omega
  have own6 := ((((own5.setBelow (p := ⟨w.heap.size + 1, 0, none⟩) hr (.int .i64 p)).setBelow (p := ⟨w.heap.size + 1, 1, none⟩) hr (.int .i64 z)).setBelow (p := ⟨w.heap.size + 1, 2, none⟩) hr (.slice d1 P.length m1)).setBelow (p := ⟨w.heap.size + 1, 3, none⟩) hr (.slice d2 M.length m2)).setBelow (p := ⟨w.heap.size + 1, 4, none⟩) hr (.int .i64 h)
  have hle : w.heap.size ≤ w.heap.size + 1 := Nat.le_succ _
  have eZ := @Ext.set _ _ (@Ext.set _ _ (@Ext.set _ _ (@Ext.set _ _ (@Ext.set _ _ eX ⟨w.heap.size + 1, 0, none⟩ hle (.int .i64 p)) ⟨w.heap.size + 1, 1, none⟩ hle (.int .i64 z)) ⟨w.heap.size + 1, 2, none⟩ hle (.slice d1 P.length m1)) ⟨w.heap.size + 1, 3, none⟩ hle (.slice d2 M.length m2)) ⟨w.heap.size + 1, 4, none⟩ hle (.int .i64 h)
  obtain ⟨b0, b1, b2, b3, b4, k0, k1, k2, k3, k4⟩ := hB4
  obtain ⟨r0, r1, r2, r3, r4, n0, n1, n2, n3, n4⟩ := hR5
  go_wp2_with fail
  refine bodyPost_ret (res_bx1 rfl rfl hZ) rfl ?_
  exact ⟨d1, m1, d2, m2, rfl, own6.mono (by omega), eZ⟩
end Go.Proofs.YtaphnkgjcmneoaaGreatDoor
