/- A fault. -/
import Derived.Test.YtaphnkgjcmneoaaGreatDoorCta
namespace Go.Proofs.YtaphnkgjcmneoaaGreatDoor
open Go.RowKit


theorem ints_e (u : World) (d : Option Addr) (c : Nat) : IsInts u (.slice d 0 c) [] := ⟨d, c, rfl, ⟨Nat.zero_le _, Nat.zero_le _⟩, by simp, fun j hj => by simp at hj⟩
set_option maxHeartbeats 3200000 in
set_option maxRecDepth 100000 in
theorem l4Fault1_any {n k : Nat} {P M : List Int} {x : Int} {dP dM : Option Addr} {cP cM : Nat} {w0 w : World} [Ext w0 w] (hP : IsInts w0 (.slice dP P.length cP) P) (hM : IsInts w0 (.slice dM M.length cM) M) {G : Nat → Prop} (_gP : GB G (.slice dP P.length cP) P) (gM : GB G (.slice dM M.length cM) M) (s : ST 1 n P M k) (hx : 0 ≤ x ∧ x ≤ 7) :
    Calls Tryz.prog 83 #[.agg #[.int .i64 1, .int .i64 n, .slice dP P.length cP, .slice dM M.length cM, .int .i64 k], .int .i64 x] w (SPost G 1 n w0 w) := by
  unfold SPost
  obtain ⟨W, hW⟩ : ∃ W, W = (w.alloc (.cells #[.int .i64 1, .int .i64 n, .slice dP P.length cP, .slice dM M.length cM, .int .i64 k] 26)).alloc (.cells #[.int .i64 0, .int .i64 0, .slice none 0 0, .slice none 0 0, .int .i64 0] 26) := ⟨_, rfl⟩
  go_enter Tryz.func83, Tryz.ntmps83
  go_upto_region 1 with fail
  rw [← hW]
  have eW : Ext w W := by rw [hW]; infer_instance
  have hWs : W.heap.size = w.heap.size + 2 := by rw [hW]; go_simp
  have hA : BX W w.heap.size (.int .i64 1) (.int .i64 n) (.slice dP P.length cP) (.slice dM M.length cM) (.int .i64 k) := by
    rw [hW]
    exact (BX.alloc w 26 (.int .i64 1) (.int .i64 n) (.slice dP P.length cP) (.slice dM M.length cM) (.int .i64 k)).ext inferInstance
  have hR : BX W (w.heap.size + 1) (.int .i64 0) (.int .i64 0) (.slice none 0 0) (.slice none 0 0) (.int .i64 0) := by
    have h1 := BX.alloc (w.alloc (.cells #[.int .i64 1, .int .i64 n, .slice dP P.length cP, .slice dM M.length cM, .int .i64 k] 26)) 26 (.int .i64 0) (.int .i64 0) (.slice none 0 0) (.slice none 0 0) (.int .i64 0)
    rw [show (w.alloc (.cells #[.int .i64 1, .int .i64 n, .slice dP P.length cP, .slice dM M.length cM, .int .i64 k] 26)).heap.size = w.heap.size + 1 by go_simp] at h1
    rw [hW]
    exact h1
  replace hW := hid hW
  obtain ⟨V, hV⟩ : ∃ V, V = W.alloc (.cells #[.int .i64 1, .int .i64 n, .slice dP P.length cP, .slice dM M.length cM, .int .i64 k] 26) := ⟨_, rfl⟩
  have eWV : Ext W V := by rw [hV]; infer_instance
  have hC1 : BX V (w.heap.size + 2) (.int .i64 1) (.int .i64 n) (.slice dP P.length cP) (.slice dM M.length cM) (.int .i64 k) := by rw [hV, ← hWs]; exact BX.alloc _ _ _ _ _ _ _
  have hVs : V.heap.size = w.heap.size + 3 := by rw [hV]; go_simp
  have hA1 := hA.ext eWV
  have hR1 := hR.ext eWV
  have eV : Ext w V := Ext.trans eW eWV
  obtain ⟨b0, b1, b2, b3, b4, k0, k1, k2, k3, k4⟩ := hA
  go_upto_region 4 with fail
  rw [← hV]
  replace hV := hid hV
  clear b0 b1 b2 b3 b4 k0 k1 k2 k3 k4 hR hWs eW eWV
  obtain ⟨c, hc⟩ : ∃ c, c = w.heap.size + 2 := ⟨_, rfl⟩
  obtain ⟨r, hr⟩ : ∃ r, r = w.heap.size + 1 := ⟨_, rfl⟩
  obtain ⟨a, ha⟩ : ∃ a, a = w.heap.size := ⟨_, rfl⟩
  obtain ⟨Q, hQ⟩ : ∃ Q, Q = V.heap.size := ⟨_, rfl⟩
  rw [← hc] at hC1 ⊢
  rw [← hr] at hR1 ⊢
  rw [← ha] at hA1 hc hr hVs ⊢
  rw [← hQ] at hVs
  have hca : c ≠ a := by omega
  have hcr : c ≠ r := by omega
  have har : a ≠ r := by omega
  have hcQ : c < Q := by omega
  have haQ : a < Q := by omega
  have hrQ : r < Q := by omega
  have hwc : w.heap.size ≤ c := by omega
  have hwr : w.heap.size ≤ r := by omega
  have hwQ : w.heap.size ≤ Q := by omega
  clear hVs
  replace hc := hid hc
  replace hr := hid hr
  replace ha := hid ha
  replace hQ := hid hQ
  have hwc0 : w0.heap.size ≤ c := Nat.le_trans (‹Ext w0 w›).below.size hwc
  have hwr0 : w0.heap.size ≤ r := Nat.le_trans (‹Ext w0 w›).below.size hwr
  have hA := hA1
  obtain ⟨b0, b1, b2, b3, b4, k0, k1, k2, k3, k4⟩ := hA1
  by_cases hlt : P.length = n
  · obtain rfl : n = P.length := hlt.symm
    have hl6 := s.iP.1
    have h0 : 0 < P.length := by have := s.z1; omega
    have hVi := hid (fun (u : World) (e : Ext w0 u) => @l4Victim1_any P.length k P M dP dM cP cM w0 u e hM s h0 hl6)
    have hWo := hid (fun (u : World) (e : Ext w0 u) (j : Nat) (hj : j < P.length) => @l4Without_any _ P j w0 u e hP hj (by omega))
    go_upto_region 5 with fail
    go_wp2_with fail
    refine (hVi.out V (Ext.trans ‹Ext w0 w› eV)).mono ?_
    rintro e w1 ⟨rr, rfl, hrr, e1⟩
    clear b0 b1 b2 b3 b4 k0 k1 k2 k3 k4
    have hC2 := hC1.ext e1
    have hR2 := hR1.ext e1
    have hA2 := hA.ext e1
    have e01 : Ext w w1 := Ext.trans eV e1
    have hQ1 : Q ≤ w1.heap.size := by rw [hQ.out]; exact e1.below.size
    clear hC1 hR1 hA
    have hA2' := hA2
    obtain ⟨b0, b1, b2, b3, b4, k0, k1, k2, k3, k4⟩ := hA2'
    go_wp2_with fail
    refine (hWo.out w1 (Ext.trans ‹Ext w0 w› e01) rr hrr).mono ?_
    rintro e w2 ⟨d2, m2, he, own2, e2⟩
    obtain ⟨L2, hL2⟩ : ∃ L2, L2 = P.take rr ++ P.drop (rr + 1) := ⟨_, rfl⟩
    have hll : L2.length = P.length - 1 := by rw [hL2, len_wo hrr]
    rw [← hll] at he own2
    rw [← hL2] at own2
    have hll2 : L2.length < P.length := by omega
    subst he
    replace hll := hid hll
    replace hL2 := hid hL2
    clear b0 b1 b2 b3 b4 k0 k1 k2 k3 k4
    have hC3 := hC2.ext e2
    have hR3 := hR2.ext e2
    have hA3 := hA2.ext e2
    have hcw1 : c < w1.heap.size := Nat.lt_of_lt_of_le hcQ hQ1
    have hrw1 : r < w1.heap.size := Nat.lt_of_lt_of_le hrQ hQ1
    have own3 := own2.setBelow (p := ⟨c, 2, none⟩) hcw1 (.slice d2 L2.length m2)
    have hC := hC3.set2 (.slice d2 L2.length m2)
    have hR := hR3.other (p := ⟨c, 2, none⟩) hcr (.slice d2 L2.length m2)
    have hA := hA3.other (p := ⟨c, 2, none⟩) hca (.slice d2 L2.length m2)
    have eU : Ext w (w2.setCell ⟨c, 2, none⟩ (.slice d2 L2.length m2)) := @Ext.set _ _ (Ext.trans e01 e2) ⟨c, 2, none⟩ hwc _
    have hQU : Q ≤ (w2.setCell ⟨c, 2, none⟩ (.slice d2 L2.length m2)).heap.size := by
      rw [show (w2.setCell ⟨c, 2, none⟩ (.slice d2 L2.length m2)).heap.size = w2.heap.size by go_simp]
      exact Nat.le_trans hQ1 e2.below.size
    clear hC2 hR2 hA2 own2
    obtain ⟨b0, b1, b2, b3, b4, k0, k1, k2, k3, k4⟩ := hC3
    go_upto_region 9 with fail
    clear b0 b1 b2 b3 b4 k0 k1 k2 k3 k4 hR3 hA3 e2
    generalize w2.setCell ⟨c, 2, none⟩ (.slice d2 L2.length m2) = u0 at *
    have hA' := hA
    obtain ⟨a0, a1, a2, a3, a4, -, -, -, -, -⟩ := hA'
    go_upto_region 11 with fail
    clear a0 a1 a2 a3 a4
    have s1 := s.out (by omega) (by omega) hrr
    rw [← hL2.out] at s1
    have rP := RD.own own3 hcw1 hrw1 s1.iP.2.1 s1.iP.2.2
    have rM := RD.of hM (Ext.trans ‹Ext w0 w› eU) hwc0 hwr0
    have hl6' : L2.length ≤ 6 := by omega
    have s' := s1.in1 (by omega) (by omega) (by omega) hx
    have hCu := hC
    obtain ⟨b0, b1, b2, b3, b4, k0, k1, k2, k3, k4⟩ := hCu
    go_upto_region 11 with fail
    go_wp2_with fail
    refine ((@l4Front_any _ L2 x u0 u0 (Ext.refl _) rP.1 (by omega))).mono ?_
    rintro e u1 ⟨d4, m4, rfl, own4, e4⟩
    have hcU : c < (u0).heap.size := Nat.lt_of_lt_of_le hcQ hQU
    have hrU : r < (u0).heap.size := Nat.lt_of_lt_of_le hrQ hQU
    have hC1 := hC.ext e4
    have hR1 := hR.ext e4
    have hA1 := hA.ext e4
    have hC2 := hC1.set2 (.slice d4 (x :: L2).length m4)
    have hR2 := hR1.other (p := ⟨c, 2, none⟩) hcr (.slice d4 (x :: L2).length m4)
    have hA2 := hA1.other (p := ⟨c, 2, none⟩) hca (.slice d4 (x :: L2).length m4)
    have rM2 := (rM.ext e4).set (p := ⟨c, 2, none⟩) (.inl rfl) (.slice d4 (x :: L2).length m4)
    have e2 : Ext w (u1.setCell ⟨c, 2, none⟩ (.slice d4 (x :: L2).length m4)) := @Ext.set _ _ (Ext.trans eU e4) ⟨c, 2, none⟩ hwc _
    have own5 := own4.setBelow (p := ⟨c, 2, none⟩) hcU (.slice d4 (x :: L2).length m4)
    have hQ2 : Q ≤ (u1.setCell ⟨c, 2, none⟩ (.slice d4 (x :: L2).length m4)).heap.size := by
      rw [show (u1.setCell ⟨c, 2, none⟩ (.slice d4 (x :: L2).length m4)).heap.size = u1.heap.size by go_simp]
      exact Nat.le_trans hQU e4.below.size
    clear b0 b1 b2 b3 b4 k0 k1 k2 k3 k4 hC hR hA
    obtain ⟨b0, b1, b2, b3, b4, k0, k1, k2, k3, k4⟩ := hC1
    go_upto_region 12 with fail
    clear b0 b1 b2 b3 b4 k0 k1 k2 k3 k4 hR1 hA1
    generalize u1.setCell ⟨c, 2, none⟩ (.slice d4 (x :: L2).length m4) = u2 at *
    obtain ⟨b0, b1, b2, b3, b4, k0, k1, k2, k3, k4⟩ := hA2
    go_upto_region 14 with fail
    clear b0 b1 b2 b3 b4 k0 k1 k2 k3 k4
    have hC9 := hC2
    have hR9 := hR2
    have e9 := e2
    obtain ⟨hZ, eZ, oZ⟩ := res_store (v0 := .int .i64 1) (v1 := .int .i64 P.length) (v2 := .slice d4 (x :: L2).length m4) (v3 := .slice dM M.length cM) (v4 := .int .i64 k) hR9 e9 hwr
    obtain ⟨b0, b1, b2, b3, b4, k0, k1, k2, k3, k4⟩ := hC9
    obtain ⟨r0, r1, r2, r3, r4, f0, f1, f2, f3, f4⟩ := hR9
    go_wp2_with fail
    refine bodyPost_ret (res_bx1 rfl rfl hZ) rfl ?_
    have rP6 := RD.own own5 hcU hrU s'.iP.2.1 s'.iP.2.2
    have own6 := oZ _ _ hrU own5
    exact ⟨x :: L2, M, k, d4, (x :: L2).length, m4, dM, M.length, cM, rfl, s', own_rf s' own6 hwr hrU, RF.of gM hM (Ext.trans ‹Ext w0 w› eZ), eZ⟩
  · have hU : V = V := rfl
    have hlz : P.length < n := by have := s.len; omega
    have s' := s.in1 (by omega) (by omega) (by omega) hx
    have rP := RD.of hP (Ext.trans ‹Ext w0 w› eV) hwc0 hwr0
    have rM := RD.of hM (Ext.trans ‹Ext w0 w› eV) hwc0 hwr0
    have hC := hC1
    have hR := hR1
    have eU := eV
    have hQU : Q ≤ V.heap.size := by rw [hQ.out]; exact Nat.le_refl _
    clear hC1 hR1
    have hl6 := s.iP.1
    have hneq : ((P.length : Int) == (n : Int)) = false := beq_eq_false_iff_ne.2 (by omega)
    have hCu := hC
    obtain ⟨b0, b1, b2, b3, b4, k0, k1, k2, k3, k4⟩ := hCu
    go_upto_region 11 with fail
    go_wp2_with fail
    refine ((@l4Front_any _ P x V V (Ext.refl _) rP.1 (by omega))).mono ?_
    rintro e u1 ⟨d4, m4, rfl, own4, e4⟩
    have hcU : c < (V).heap.size := Nat.lt_of_lt_of_le hcQ hQU
    have hrU : r < (V).heap.size := Nat.lt_of_lt_of_le hrQ hQU
    have hC1 := hC.ext e4
    have hR1 := hR.ext e4
    have hA1 := hA.ext e4
    have hC2 := hC1.set2 (.slice d4 (x :: P).length m4)
    have hR2 := hR1.other (p := ⟨c, 2, none⟩) hcr (.slice d4 (x :: P).length m4)
    have hA2 := hA1.other (p := ⟨c, 2, none⟩) hca (.slice d4 (x :: P).length m4)
    have rM2 := (rM.ext e4).set (p := ⟨c, 2, none⟩) (.inl rfl) (.slice d4 (x :: P).length m4)
    have e2 : Ext w (u1.setCell ⟨c, 2, none⟩ (.slice d4 (x :: P).length m4)) := @Ext.set _ _ (Ext.trans eU e4) ⟨c, 2, none⟩ hwc _
    have own5 := own4.setBelow (p := ⟨c, 2, none⟩) hcU (.slice d4 (x :: P).length m4)
    have hQ2 : Q ≤ (u1.setCell ⟨c, 2, none⟩ (.slice d4 (x :: P).length m4)).heap.size := by
      rw [show (u1.setCell ⟨c, 2, none⟩ (.slice d4 (x :: P).length m4)).heap.size = u1.heap.size by go_simp]
      exact Nat.le_trans hQU e4.below.size
    clear b0 b1 b2 b3 b4 k0 k1 k2 k3 k4 hC hR hA
    obtain ⟨b0, b1, b2, b3, b4, k0, k1, k2, k3, k4⟩ := hC1
    go_upto_region 12 with fail
    clear b0 b1 b2 b3 b4 k0 k1 k2 k3 k4 hR1 hA1
    generalize u1.setCell ⟨c, 2, none⟩ (.slice d4 (x :: P).length m4) = u2 at *
    obtain ⟨b0, b1, b2, b3, b4, k0, k1, k2, k3, k4⟩ := hA2
    go_upto_region 14 with fail
    clear b0 b1 b2 b3 b4 k0 k1 k2 k3 k4
    have hC9 := hC2
    have hR9 := hR2
    have e9 := e2
    obtain ⟨hZ, eZ, oZ⟩ := res_store (v0 := .int .i64 1) (v1 := .int .i64 n) (v2 := .slice d4 (x :: P).length m4) (v3 := .slice dM M.length cM) (v4 := .int .i64 k) hR9 e9 hwr
    obtain ⟨b0, b1, b2, b3, b4, k0, k1, k2, k3, k4⟩ := hC9
    obtain ⟨r0, r1, r2, r3, r4, f0, f1, f2, f3, f4⟩ := hR9
    go_wp2_with fail
    refine bodyPost_ret (res_bx1 rfl rfl hZ) rfl ?_
    have rP6 := RD.own own5 hcU hrU s'.iP.2.1 s'.iP.2.2
    have own6 := oZ _ _ hrU own5
    exact ⟨x :: P, M, k, d4, (x :: P).length, m4, dM, M.length, cM, rfl, s', own_rf s' own6 hwr hrU, RF.of gM hM (Ext.trans ‹Ext w0 w› eZ), eZ⟩
set_option maxHeartbeats 3200000 in
set_option maxRecDepth 100000 in
theorem l4Fault2_any {n k : Nat} {P M : List Int} {x : Int} {dP dM : Option Addr} {cP cM : Nat} {w0 w : World} [Ext w0 w] (hP : IsInts w0 (.slice dP P.length cP) P) (hM : IsInts w0 (.slice dM M.length cM) M) {G : Nat → Prop} (_gP : GB G (.slice dP P.length cP) P) (gM : GB G (.slice dM M.length cM) M) (s : ST 2 n P M k) (hx : 0 ≤ x ∧ x ≤ 7) :
    Calls Tryz.prog 83 #[.agg #[.int .i64 2, .int .i64 n, .slice dP P.length cP, .slice dM M.length cM, .int .i64 k], .int .i64 x] w (SPost G 2 n w0 w) := by
  unfold SPost
  obtain ⟨W, hW⟩ : ∃ W, W = (w.alloc (.cells #[.int .i64 2, .int .i64 n, .slice dP P.length cP, .slice dM M.length cM, .int .i64 k] 26)).alloc (.cells #[.int .i64 0, .int .i64 0, .slice none 0 0, .slice none 0 0, .int .i64 0] 26) := ⟨_, rfl⟩
  go_enter Tryz.func83, Tryz.ntmps83
  go_upto_region 1 with fail
  rw [← hW]
  have eW : Ext w W := by rw [hW]; infer_instance
  have hWs : W.heap.size = w.heap.size + 2 := by rw [hW]; go_simp
  have hA : BX W w.heap.size (.int .i64 2) (.int .i64 n) (.slice dP P.length cP) (.slice dM M.length cM) (.int .i64 k) := by
    rw [hW]
    exact (BX.alloc w 26 (.int .i64 2) (.int .i64 n) (.slice dP P.length cP) (.slice dM M.length cM) (.int .i64 k)).ext inferInstance
  have hR : BX W (w.heap.size + 1) (.int .i64 0) (.int .i64 0) (.slice none 0 0) (.slice none 0 0) (.int .i64 0) := by
    have h1 := BX.alloc (w.alloc (.cells #[.int .i64 2, .int .i64 n, .slice dP P.length cP, .slice dM M.length cM, .int .i64 k] 26)) 26 (.int .i64 0) (.int .i64 0) (.slice none 0 0) (.slice none 0 0) (.int .i64 0)
    rw [show (w.alloc (.cells #[.int .i64 2, .int .i64 n, .slice dP P.length cP, .slice dM M.length cM, .int .i64 k] 26)).heap.size = w.heap.size + 1 by go_simp] at h1
    rw [hW]
    exact h1
  replace hW := hid hW
  obtain ⟨V, hV⟩ : ∃ V, V = W.alloc (.cells #[.int .i64 2, .int .i64 n, .slice dP P.length cP, .slice dM M.length cM, .int .i64 k] 26) := ⟨_, rfl⟩
  have eWV : Ext W V := by rw [hV]; infer_instance
  have hC1 : BX V (w.heap.size + 2) (.int .i64 2) (.int .i64 n) (.slice dP P.length cP) (.slice dM M.length cM) (.int .i64 k) := by rw [hV, ← hWs]; exact BX.alloc _ _ _ _ _ _ _
  have hVs : V.heap.size = w.heap.size + 3 := by rw [hV]; go_simp
  have hA1 := hA.ext eWV
  have hR1 := hR.ext eWV
  have eV : Ext w V := Ext.trans eW eWV
  obtain ⟨b0, b1, b2, b3, b4, k0, k1, k2, k3, k4⟩ := hA
  go_upto_region 4 with fail
  rw [← hV]
  replace hV := hid hV
  clear b0 b1 b2 b3 b4 k0 k1 k2 k3 k4 hR hWs eW eWV
  obtain ⟨c, hc⟩ : ∃ c, c = w.heap.size + 2 := ⟨_, rfl⟩
  obtain ⟨r, hr⟩ : ∃ r, r = w.heap.size + 1 := ⟨_, rfl⟩
  obtain ⟨a, ha⟩ : ∃ a, a = w.heap.size := ⟨_, rfl⟩
  obtain ⟨Q, hQ⟩ : ∃ Q, Q = V.heap.size := ⟨_, rfl⟩
  rw [← hc] at hC1 ⊢
  rw [← hr] at hR1 ⊢
  rw [← ha] at hA1 hc hr hVs ⊢
  rw [← hQ] at hVs
  have hca : c ≠ a := by omega
  have hcr : c ≠ r := by omega
  have har : a ≠ r := by omega
  have hcQ : c < Q := by omega
  have haQ : a < Q := by omega
  have hrQ : r < Q := by omega
  have hwc : w.heap.size ≤ c := by omega
  have hwr : w.heap.size ≤ r := by omega
  have hwQ : w.heap.size ≤ Q := by omega
  clear hVs
  replace hc := hid hc
  replace hr := hid hr
  replace ha := hid ha
  replace hQ := hid hQ
  have hwc0 : w0.heap.size ≤ c := Nat.le_trans (‹Ext w0 w›).below.size hwc
  have hwr0 : w0.heap.size ≤ r := Nat.le_trans (‹Ext w0 w›).below.size hwr
  have hA := hA1
  obtain ⟨b0, b1, b2, b3, b4, k0, k1, k2, k3, k4⟩ := hA1
  by_cases hlt : P.length = n
  · obtain rfl : n = P.length := hlt.symm
    have hl6 := s.iP.1
    have h0 : 0 < P.length := by have := s.z1; omega
    have hVi := hid (fun (u : World) (e : Ext w0 u) => @l4Victim2_any P.length k P M dP dM cP cM w0 u e hM s h0 hl6)
    have hWo := hid (fun (u : World) (e : Ext w0 u) (j : Nat) (hj : j < P.length) => @l4Without_any _ P j w0 u e hP hj (by omega))
    go_upto_region 5 with fail
    go_wp2_with fail
    refine (hVi.out V (Ext.trans ‹Ext w0 w› eV)).mono ?_
    rintro e w1 ⟨rr, rfl, hrr, e1⟩
    clear b0 b1 b2 b3 b4 k0 k1 k2 k3 k4
    have hC2 := hC1.ext e1
    have hR2 := hR1.ext e1
    have hA2 := hA.ext e1
    have e01 : Ext w w1 := Ext.trans eV e1
    have hQ1 : Q ≤ w1.heap.size := by rw [hQ.out]; exact e1.below.size
    clear hC1 hR1 hA
    have hA2' := hA2
    obtain ⟨b0, b1, b2, b3, b4, k0, k1, k2, k3, k4⟩ := hA2'
    go_wp2_with fail
    refine (hWo.out w1 (Ext.trans ‹Ext w0 w› e01) rr hrr).mono ?_
    rintro e w2 ⟨d2, m2, he, own2, e2⟩
    obtain ⟨L2, hL2⟩ : ∃ L2, L2 = P.take rr ++ P.drop (rr + 1) := ⟨_, rfl⟩
    have hll : L2.length = P.length - 1 := by rw [hL2, len_wo hrr]
    rw [← hll] at he own2
    rw [← hL2] at own2
    have hll2 : L2.length < P.length := by omega
    subst he
    replace hll := hid hll
    replace hL2 := hid hL2
    clear b0 b1 b2 b3 b4 k0 k1 k2 k3 k4
    have hC3 := hC2.ext e2
    have hR3 := hR2.ext e2
    have hA3 := hA2.ext e2
    have hcw1 : c < w1.heap.size := Nat.lt_of_lt_of_le hcQ hQ1
    have hrw1 : r < w1.heap.size := Nat.lt_of_lt_of_le hrQ hQ1
    have own3 := own2.setBelow (p := ⟨c, 2, none⟩) hcw1 (.slice d2 L2.length m2)
    have hC := hC3.set2 (.slice d2 L2.length m2)
    have hR := hR3.other (p := ⟨c, 2, none⟩) hcr (.slice d2 L2.length m2)
    have hA := hA3.other (p := ⟨c, 2, none⟩) hca (.slice d2 L2.length m2)
    have eU : Ext w (w2.setCell ⟨c, 2, none⟩ (.slice d2 L2.length m2)) := @Ext.set _ _ (Ext.trans e01 e2) ⟨c, 2, none⟩ hwc _
    have hQU : Q ≤ (w2.setCell ⟨c, 2, none⟩ (.slice d2 L2.length m2)).heap.size := by
      rw [show (w2.setCell ⟨c, 2, none⟩ (.slice d2 L2.length m2)).heap.size = w2.heap.size by go_simp]
      exact Nat.le_trans hQ1 e2.below.size
    clear hC2 hR2 hA2 own2
    obtain ⟨b0, b1, b2, b3, b4, k0, k1, k2, k3, k4⟩ := hC3
    go_upto_region 9 with fail
    clear b0 b1 b2 b3 b4 k0 k1 k2 k3 k4 hR3 hA3 e2
    generalize w2.setCell ⟨c, 2, none⟩ (.slice d2 L2.length m2) = u0 at *
    have hA' := hA
    obtain ⟨a0, a1, a2, a3, a4, -, -, -, -, -⟩ := hA'
    go_upto_region 11 with fail
    clear a0 a1 a2 a3 a4
    have s1 := s.out (by omega) (by omega) hrr
    rw [← hL2.out] at s1
    have rP := RD.own own3 hcw1 hrw1 s1.iP.2.1 s1.iP.2.2
    have rM := RD.of hM (Ext.trans ‹Ext w0 w› eU) hwc0 hwr0
    have hl6' : L2.length ≤ 6 := by omega
    have s' := s1.in1 (by omega) (by omega) (by omega) hx
    have hCu := hC
    obtain ⟨b0, b1, b2, b3, b4, k0, k1, k2, k3, k4⟩ := hCu
    go_upto_region 11 with fail
    go_wp2_with fail
    refine ((@l4Front_any _ L2 x u0 u0 (Ext.refl _) rP.1 (by omega))).mono ?_
    rintro e u1 ⟨d4, m4, rfl, own4, e4⟩
    have hcU : c < (u0).heap.size := Nat.lt_of_lt_of_le hcQ hQU
    have hrU : r < (u0).heap.size := Nat.lt_of_lt_of_le hrQ hQU
    have hC1 := hC.ext e4
    have hR1 := hR.ext e4
    have hA1 := hA.ext e4
    have hC2 := hC1.set2 (.slice d4 (x :: L2).length m4)
    have hR2 := hR1.other (p := ⟨c, 2, none⟩) hcr (.slice d4 (x :: L2).length m4)
    have hA2 := hA1.other (p := ⟨c, 2, none⟩) hca (.slice d4 (x :: L2).length m4)
    have rM2 := (rM.ext e4).set (p := ⟨c, 2, none⟩) (.inl rfl) (.slice d4 (x :: L2).length m4)
    have e2 : Ext w (u1.setCell ⟨c, 2, none⟩ (.slice d4 (x :: L2).length m4)) := @Ext.set _ _ (Ext.trans eU e4) ⟨c, 2, none⟩ hwc _
    have own5 := own4.setBelow (p := ⟨c, 2, none⟩) hcU (.slice d4 (x :: L2).length m4)
    have hQ2 : Q ≤ (u1.setCell ⟨c, 2, none⟩ (.slice d4 (x :: L2).length m4)).heap.size := by
      rw [show (u1.setCell ⟨c, 2, none⟩ (.slice d4 (x :: L2).length m4)).heap.size = u1.heap.size by go_simp]
      exact Nat.le_trans hQU e4.below.size
    clear b0 b1 b2 b3 b4 k0 k1 k2 k3 k4 hC hR hA
    obtain ⟨b0, b1, b2, b3, b4, k0, k1, k2, k3, k4⟩ := hC1
    go_upto_region 12 with fail
    clear b0 b1 b2 b3 b4 k0 k1 k2 k3 k4 hR1 hA1
    generalize u1.setCell ⟨c, 2, none⟩ (.slice d4 (x :: L2).length m4) = u2 at *
    obtain ⟨b0, b1, b2, b3, b4, k0, k1, k2, k3, k4⟩ := hA2
    go_upto_region 14 with fail
    clear b0 b1 b2 b3 b4 k0 k1 k2 k3 k4
    have hC9 := hC2
    have hR9 := hR2
    have e9 := e2
    obtain ⟨hZ, eZ, oZ⟩ := res_store (v0 := .int .i64 2) (v1 := .int .i64 P.length) (v2 := .slice d4 (x :: L2).length m4) (v3 := .slice dM M.length cM) (v4 := .int .i64 k) hR9 e9 hwr
    obtain ⟨b0, b1, b2, b3, b4, k0, k1, k2, k3, k4⟩ := hC9
    obtain ⟨r0, r1, r2, r3, r4, f0, f1, f2, f3, f4⟩ := hR9
    go_wp2_with fail
    refine bodyPost_ret (res_bx1 rfl rfl hZ) rfl ?_
    have rP6 := RD.own own5 hcU hrU s'.iP.2.1 s'.iP.2.2
    have own6 := oZ _ _ hrU own5
    exact ⟨x :: L2, M, k, d4, (x :: L2).length, m4, dM, M.length, cM, rfl, s', own_rf s' own6 hwr hrU, RF.of gM hM (Ext.trans ‹Ext w0 w› eZ), eZ⟩
  · have hU : V = V := rfl
    have hlz : P.length < n := by have := s.len; omega
    have s' := s.in1 (by omega) (by omega) (by omega) hx
    have rP := RD.of hP (Ext.trans ‹Ext w0 w› eV) hwc0 hwr0
    have rM := RD.of hM (Ext.trans ‹Ext w0 w› eV) hwc0 hwr0
    have hC := hC1
    have hR := hR1
    have eU := eV
    have hQU : Q ≤ V.heap.size := by rw [hQ.out]; exact Nat.le_refl _
    clear hC1 hR1
    have hl6 := s.iP.1
    have hneq : ((P.length : Int) == (n : Int)) = false := beq_eq_false_iff_ne.2 (by omega)
    have hCu := hC
    obtain ⟨b0, b1, b2, b3, b4, k0, k1, k2, k3, k4⟩ := hCu
    go_upto_region 11 with fail
    go_wp2_with fail
    refine ((@l4Front_any _ P x V V (Ext.refl _) rP.1 (by omega))).mono ?_
    rintro e u1 ⟨d4, m4, rfl, own4, e4⟩
    have hcU : c < (V).heap.size := Nat.lt_of_lt_of_le hcQ hQU
    have hrU : r < (V).heap.size := Nat.lt_of_lt_of_le hrQ hQU
    have hC1 := hC.ext e4
    have hR1 := hR.ext e4
    have hA1 := hA.ext e4
    have hC2 := hC1.set2 (.slice d4 (x :: P).length m4)
    have hR2 := hR1.other (p := ⟨c, 2, none⟩) hcr (.slice d4 (x :: P).length m4)
    have hA2 := hA1.other (p := ⟨c, 2, none⟩) hca (.slice d4 (x :: P).length m4)
    have rM2 := (rM.ext e4).set (p := ⟨c, 2, none⟩) (.inl rfl) (.slice d4 (x :: P).length m4)
    have e2 : Ext w (u1.setCell ⟨c, 2, none⟩ (.slice d4 (x :: P).length m4)) := @Ext.set _ _ (Ext.trans eU e4) ⟨c, 2, none⟩ hwc _
    have own5 := own4.setBelow (p := ⟨c, 2, none⟩) hcU (.slice d4 (x :: P).length m4)
    have hQ2 : Q ≤ (u1.setCell ⟨c, 2, none⟩ (.slice d4 (x :: P).length m4)).heap.size := by
      rw [show (u1.setCell ⟨c, 2, none⟩ (.slice d4 (x :: P).length m4)).heap.size = u1.heap.size by go_simp]
      exact Nat.le_trans hQU e4.below.size
    clear b0 b1 b2 b3 b4 k0 k1 k2 k3 k4 hC hR hA
    obtain ⟨b0, b1, b2, b3, b4, k0, k1, k2, k3, k4⟩ := hC1
    go_upto_region 12 with fail
    clear b0 b1 b2 b3 b4 k0 k1 k2 k3 k4 hR1 hA1
    generalize u1.setCell ⟨c, 2, none⟩ (.slice d4 (x :: P).length m4) = u2 at *
    obtain ⟨b0, b1, b2, b3, b4, k0, k1, k2, k3, k4⟩ := hA2
    go_upto_region 14 with fail
    clear b0 b1 b2 b3 b4 k0 k1 k2 k3 k4
    have hC9 := hC2
    have hR9 := hR2
    have e9 := e2
    obtain ⟨hZ, eZ, oZ⟩ := res_store (v0 := .int .i64 2) (v1 := .int .i64 n) (v2 := .slice d4 (x :: P).length m4) (v3 := .slice dM M.length cM) (v4 := .int .i64 k) hR9 e9 hwr
    obtain ⟨b0, b1, b2, b3, b4, k0, k1, k2, k3, k4⟩ := hC9
    obtain ⟨r0, r1, r2, r3, r4, f0, f1, f2, f3, f4⟩ := hR9
    go_wp2_with fail
    refine bodyPost_ret (res_bx1 rfl rfl hZ) rfl ?_
    have rP6 := RD.own own5 hcU hrU s'.iP.2.1 s'.iP.2.2
    have own6 := oZ _ _ hrU own5
    exact ⟨x :: P, M, k, d4, (x :: P).length, m4, dM, M.length, cM, rfl, s', own_rf s' own6 hwr hrU, RF.of gM hM (Ext.trans ‹Ext w0 w› eZ), eZ⟩
set_option maxHeartbeats 3200000 in
set_option maxRecDepth 100000 in
theorem l4Fault3_any {n k : Nat} {P M : List Int} {x : Int} {dP dM : Option Addr} {cP cM : Nat} {w0 w : World} [Ext w0 w] (hP : IsInts w0 (.slice dP P.length cP) P) (hM : IsInts w0 (.slice dM M.length cM) M) {G : Nat → Prop} (_gP : GB G (.slice dP P.length cP) P) (gM : GB G (.slice dM M.length cM) M) (s : ST 3 n P M k) (hx : 0 ≤ x ∧ x ≤ 7) :
    Calls Tryz.prog 83 #[.agg #[.int .i64 3, .int .i64 n, .slice dP P.length cP, .slice dM M.length cM, .int .i64 k], .int .i64 x] w (SPost G 3 n w0 w) := by
  unfold SPost
  obtain ⟨W, hW⟩ : ∃ W, W = (w.alloc (.cells #[.int .i64 3, .int .i64 n, .slice dP P.length cP, .slice dM M.length cM, .int .i64 k] 26)).alloc (.cells #[.int .i64 0, .int .i64 0, .slice none 0 0, .slice none 0 0, .int .i64 0] 26) := ⟨_, rfl⟩
  go_enter Tryz.func83, Tryz.ntmps83
  go_upto_region 1 with fail
  rw [← hW]
  have eW : Ext w W := by rw [hW]; infer_instance
  have hWs : W.heap.size = w.heap.size + 2 := by rw [hW]; go_simp
  have hA : BX W w.heap.size (.int .i64 3) (.int .i64 n) (.slice dP P.length cP) (.slice dM M.length cM) (.int .i64 k) := by
    rw [hW]
    exact (BX.alloc w 26 (.int .i64 3) (.int .i64 n) (.slice dP P.length cP) (.slice dM M.length cM) (.int .i64 k)).ext inferInstance
  have hR : BX W (w.heap.size + 1) (.int .i64 0) (.int .i64 0) (.slice none 0 0) (.slice none 0 0) (.int .i64 0) := by
    have h1 := BX.alloc (w.alloc (.cells #[.int .i64 3, .int .i64 n, .slice dP P.length cP, .slice dM M.length cM, .int .i64 k] 26)) 26 (.int .i64 0) (.int .i64 0) (.slice none 0 0) (.slice none 0 0) (.int .i64 0)
    rw [show (w.alloc (.cells #[.int .i64 3, .int .i64 n, .slice dP P.length cP, .slice dM M.length cM, .int .i64 k] 26)).heap.size = w.heap.size + 1 by go_simp] at h1
    rw [hW]
    exact h1
  replace hW := hid hW
  obtain ⟨V, hV⟩ : ∃ V, V = W.alloc (.cells #[.int .i64 3, .int .i64 n, .slice dP P.length cP, .slice dM M.length cM, .int .i64 k] 26) := ⟨_, rfl⟩
  have eWV : Ext W V := by rw [hV]; infer_instance
  have hC1 : BX V (w.heap.size + 2) (.int .i64 3) (.int .i64 n) (.slice dP P.length cP) (.slice dM M.length cM) (.int .i64 k) := by rw [hV, ← hWs]; exact BX.alloc _ _ _ _ _ _ _
  have hVs : V.heap.size = w.heap.size + 3 := by rw [hV]; go_simp
  have hA1 := hA.ext eWV
  have hR1 := hR.ext eWV
  have eV : Ext w V := Ext.trans eW eWV
  obtain ⟨b0, b1, b2, b3, b4, k0, k1, k2, k3, k4⟩ := hA
  go_upto_region 4 with fail
  rw [← hV]
  replace hV := hid hV
  clear b0 b1 b2 b3 b4 k0 k1 k2 k3 k4 hR hWs eW eWV
  obtain ⟨c, hc⟩ : ∃ c, c = w.heap.size + 2 := ⟨_, rfl⟩
  obtain ⟨r, hr⟩ : ∃ r, r = w.heap.size + 1 := ⟨_, rfl⟩
  obtain ⟨a, ha⟩ : ∃ a, a = w.heap.size := ⟨_, rfl⟩
  obtain ⟨Q, hQ⟩ : ∃ Q, Q = V.heap.size := ⟨_, rfl⟩
  rw [← hc] at hC1 ⊢
  rw [← hr] at hR1 ⊢
  rw [← ha] at hA1 hc hr hVs ⊢
  rw [← hQ] at hVs
  have hca : c ≠ a := by omega
  have hcr : c ≠ r := by omega
  have har : a ≠ r := by omega
  have hcQ : c < Q := by omega
  have haQ : a < Q := by omega
  have hrQ : r < Q := by omega
  have hwc : w.heap.size ≤ c := by omega
  have hwr : w.heap.size ≤ r := by omega
  have hwQ : w.heap.size ≤ Q := by omega
  clear hVs
  replace hc := hid hc
  replace hr := hid hr
  replace ha := hid ha
  replace hQ := hid hQ
  have hwc0 : w0.heap.size ≤ c := Nat.le_trans (‹Ext w0 w›).below.size hwc
  have hwr0 : w0.heap.size ≤ r := Nat.le_trans (‹Ext w0 w›).below.size hwr
  have hA := hA1
  obtain ⟨b0, b1, b2, b3, b4, k0, k1, k2, k3, k4⟩ := hA1
  by_cases hlt : P.length = n
  · obtain rfl : n = P.length := hlt.symm
    have hl6 := s.iP.1
    have h0 : 0 < P.length := by have := s.z1; omega
    have hVi := hid (fun (u : World) (e : Ext w0 u) => @l4Victim3_any P.length k P M dP dM cP cM w0 u e hM s h0 hl6)
    have hWo := hid (fun (u : World) (e : Ext w0 u) (j : Nat) (hj : j < P.length) => @l4Without_any _ P j w0 u e hP hj (by omega))
    go_upto_region 5 with fail
    go_wp2_with fail
    refine (hVi.out V (Ext.trans ‹Ext w0 w› eV)).mono ?_
    rintro e w1 ⟨rr, rfl, hrr, e1⟩
    clear b0 b1 b2 b3 b4 k0 k1 k2 k3 k4
    have hC2 := hC1.ext e1
    have hR2 := hR1.ext e1
    have hA2 := hA.ext e1
    have e01 : Ext w w1 := Ext.trans eV e1
    have hQ1 : Q ≤ w1.heap.size := by rw [hQ.out]; exact e1.below.size
    clear hC1 hR1 hA
    have hA2' := hA2
    obtain ⟨b0, b1, b2, b3, b4, k0, k1, k2, k3, k4⟩ := hA2'
    go_wp2_with fail
    refine (hWo.out w1 (Ext.trans ‹Ext w0 w› e01) rr hrr).mono ?_
    rintro e w2 ⟨d2, m2, he, own2, e2⟩
    obtain ⟨L2, hL2⟩ : ∃ L2, L2 = P.take rr ++ P.drop (rr + 1) := ⟨_, rfl⟩
    have hll : L2.length = P.length - 1 := by rw [hL2, len_wo hrr]
    rw [← hll] at he own2
    rw [← hL2] at own2
    have hll2 : L2.length < P.length := by omega
    subst he
    replace hll := hid hll
    replace hL2 := hid hL2
    clear b0 b1 b2 b3 b4 k0 k1 k2 k3 k4
    have hC3 := hC2.ext e2
    have hR3 := hR2.ext e2
    have hA3 := hA2.ext e2
    have hcw1 : c < w1.heap.size := Nat.lt_of_lt_of_le hcQ hQ1
    have hrw1 : r < w1.heap.size := Nat.lt_of_lt_of_le hrQ hQ1
    have own3 := own2.setBelow (p := ⟨c, 2, none⟩) hcw1 (.slice d2 L2.length m2)
    have hC := hC3.set2 (.slice d2 L2.length m2)
    have hR := hR3.other (p := ⟨c, 2, none⟩) hcr (.slice d2 L2.length m2)
    have hA := hA3.other (p := ⟨c, 2, none⟩) hca (.slice d2 L2.length m2)
    have eU : Ext w (w2.setCell ⟨c, 2, none⟩ (.slice d2 L2.length m2)) := @Ext.set _ _ (Ext.trans e01 e2) ⟨c, 2, none⟩ hwc _
    have hQU : Q ≤ (w2.setCell ⟨c, 2, none⟩ (.slice d2 L2.length m2)).heap.size := by
      rw [show (w2.setCell ⟨c, 2, none⟩ (.slice d2 L2.length m2)).heap.size = w2.heap.size by go_simp]
      exact Nat.le_trans hQ1 e2.below.size
    clear hC2 hR2 hA2 own2
    obtain ⟨b0, b1, b2, b3, b4, k0, k1, k2, k3, k4⟩ := hC3
    go_upto_region 9 with fail
    clear b0 b1 b2 b3 b4 k0 k1 k2 k3 k4 hR3 hA3 e2
    generalize w2.setCell ⟨c, 2, none⟩ (.slice d2 L2.length m2) = u0 at *
    have hA' := hA
    obtain ⟨a0, a1, a2, a3, a4, -, -, -, -, -⟩ := hA'
    go_upto_region 11 with fail
    clear a0 a1 a2 a3 a4
    have s1 := s.out (by omega) (by omega) hrr
    rw [← hL2.out] at s1
    have rP := RD.own own3 hcw1 hrw1 s1.iP.2.1 s1.iP.2.2
    have rM := RD.of hM (Ext.trans ‹Ext w0 w› eU) hwc0 hwr0
    have hl6' : L2.length ≤ 6 := by omega
    have s' := s1.in1 (by omega) (by omega) (by omega) hx
    have hCu := hC
    obtain ⟨b0, b1, b2, b3, b4, k0, k1, k2, k3, k4⟩ := hCu
    go_upto_region 11 with fail
    go_wp2_with fail
    refine ((@l4Front_any _ L2 x u0 u0 (Ext.refl _) rP.1 (by omega))).mono ?_
    rintro e u1 ⟨d4, m4, rfl, own4, e4⟩
    have hcU : c < (u0).heap.size := Nat.lt_of_lt_of_le hcQ hQU
    have hrU : r < (u0).heap.size := Nat.lt_of_lt_of_le hrQ hQU
    have hC1 := hC.ext e4
    have hR1 := hR.ext e4
    have hA1 := hA.ext e4
    have hC2 := hC1.set2 (.slice d4 (x :: L2).length m4)
    have hR2 := hR1.other (p := ⟨c, 2, none⟩) hcr (.slice d4 (x :: L2).length m4)
    have hA2 := hA1.other (p := ⟨c, 2, none⟩) hca (.slice d4 (x :: L2).length m4)
    have rM2 := (rM.ext e4).set (p := ⟨c, 2, none⟩) (.inl rfl) (.slice d4 (x :: L2).length m4)
    have e2 : Ext w (u1.setCell ⟨c, 2, none⟩ (.slice d4 (x :: L2).length m4)) := @Ext.set _ _ (Ext.trans eU e4) ⟨c, 2, none⟩ hwc _
    have own5 := own4.setBelow (p := ⟨c, 2, none⟩) hcU (.slice d4 (x :: L2).length m4)
    have hQ2 : Q ≤ (u1.setCell ⟨c, 2, none⟩ (.slice d4 (x :: L2).length m4)).heap.size := by
      rw [show (u1.setCell ⟨c, 2, none⟩ (.slice d4 (x :: L2).length m4)).heap.size = u1.heap.size by go_simp]
      exact Nat.le_trans hQU e4.below.size
    clear b0 b1 b2 b3 b4 k0 k1 k2 k3 k4 hC hR hA
    obtain ⟨b0, b1, b2, b3, b4, k0, k1, k2, k3, k4⟩ := hC1
    go_upto_region 12 with fail
    clear b0 b1 b2 b3 b4 k0 k1 k2 k3 k4 hR1 hA1
    generalize u1.setCell ⟨c, 2, none⟩ (.slice d4 (x :: L2).length m4) = u2 at *
    obtain ⟨b0, b1, b2, b3, b4, k0, k1, k2, k3, k4⟩ := hA2
    go_upto_region 14 with fail
    clear b0 b1 b2 b3 b4 k0 k1 k2 k3 k4
    have hC9 := hC2
    have hR9 := hR2
    have e9 := e2
    obtain ⟨hZ, eZ, oZ⟩ := res_store (v0 := .int .i64 3) (v1 := .int .i64 P.length) (v2 := .slice d4 (x :: L2).length m4) (v3 := .slice dM M.length cM) (v4 := .int .i64 k) hR9 e9 hwr
    obtain ⟨b0, b1, b2, b3, b4, k0, k1, k2, k3, k4⟩ := hC9
    obtain ⟨r0, r1, r2, r3, r4, f0, f1, f2, f3, f4⟩ := hR9
    go_wp2_with fail
    refine bodyPost_ret (res_bx1 rfl rfl hZ) rfl ?_
    have rP6 := RD.own own5 hcU hrU s'.iP.2.1 s'.iP.2.2
    have own6 := oZ _ _ hrU own5
    exact ⟨x :: L2, M, k, d4, (x :: L2).length, m4, dM, M.length, cM, rfl, s', own_rf s' own6 hwr hrU, RF.of gM hM (Ext.trans ‹Ext w0 w› eZ), eZ⟩
  · have hU : V = V := rfl
    have hlz : P.length < n := by have := s.len; omega
    have s' := s.in1 (by omega) (by omega) (by omega) hx
    have rP := RD.of hP (Ext.trans ‹Ext w0 w› eV) hwc0 hwr0
    have rM := RD.of hM (Ext.trans ‹Ext w0 w› eV) hwc0 hwr0
    have hC := hC1
    have hR := hR1
    have eU := eV
    have hQU : Q ≤ V.heap.size := by rw [hQ.out]; exact Nat.le_refl _
    clear hC1 hR1
    have hl6 := s.iP.1
    have hneq : ((P.length : Int) == (n : Int)) = false := beq_eq_false_iff_ne.2 (by omega)
    have hCu := hC
    obtain ⟨b0, b1, b2, b3, b4, k0, k1, k2, k3, k4⟩ := hCu
    go_upto_region 11 with fail
    go_wp2_with fail
    refine ((@l4Front_any _ P x V V (Ext.refl _) rP.1 (by omega))).mono ?_
    rintro e u1 ⟨d4, m4, rfl, own4, e4⟩
    have hcU : c < (V).heap.size := Nat.lt_of_lt_of_le hcQ hQU
    have hrU : r < (V).heap.size := Nat.lt_of_lt_of_le hrQ hQU
    have hC1 := hC.ext e4
    have hR1 := hR.ext e4
    have hA1 := hA.ext e4
    have hC2 := hC1.set2 (.slice d4 (x :: P).length m4)
    have hR2 := hR1.other (p := ⟨c, 2, none⟩) hcr (.slice d4 (x :: P).length m4)
    have hA2 := hA1.other (p := ⟨c, 2, none⟩) hca (.slice d4 (x :: P).length m4)
    have rM2 := (rM.ext e4).set (p := ⟨c, 2, none⟩) (.inl rfl) (.slice d4 (x :: P).length m4)
    have e2 : Ext w (u1.setCell ⟨c, 2, none⟩ (.slice d4 (x :: P).length m4)) := @Ext.set _ _ (Ext.trans eU e4) ⟨c, 2, none⟩ hwc _
    have own5 := own4.setBelow (p := ⟨c, 2, none⟩) hcU (.slice d4 (x :: P).length m4)
    have hQ2 : Q ≤ (u1.setCell ⟨c, 2, none⟩ (.slice d4 (x :: P).length m4)).heap.size := by
      rw [show (u1.setCell ⟨c, 2, none⟩ (.slice d4 (x :: P).length m4)).heap.size = u1.heap.size by go_simp]
      exact Nat.le_trans hQU e4.below.size
    clear b0 b1 b2 b3 b4 k0 k1 k2 k3 k4 hC hR hA
    obtain ⟨b0, b1, b2, b3, b4, k0, k1, k2, k3, k4⟩ := hC1
    go_upto_region 12 with fail
    clear b0 b1 b2 b3 b4 k0 k1 k2 k3 k4 hR1 hA1
    generalize u1.setCell ⟨c, 2, none⟩ (.slice d4 (x :: P).length m4) = u2 at *
    obtain ⟨b0, b1, b2, b3, b4, k0, k1, k2, k3, k4⟩ := hA2
    go_upto_region 14 with fail
    clear b0 b1 b2 b3 b4 k0 k1 k2 k3 k4
    have hC9 := hC2
    have hR9 := hR2
    have e9 := e2
    obtain ⟨hZ, eZ, oZ⟩ := res_store (v0 := .int .i64 3) (v1 := .int .i64 n) (v2 := .slice d4 (x :: P).length m4) (v3 := .slice dM M.length cM) (v4 := .int .i64 k) hR9 e9 hwr
    obtain ⟨b0, b1, b2, b3, b4, k0, k1, k2, k3, k4⟩ := hC9
    obtain ⟨r0, r1, r2, r3, r4, f0, f1, f2, f3, f4⟩ := hR9
    go_wp2_with fail
    refine bodyPost_ret (res_bx1 rfl rfl hZ) rfl ?_
    have rP6 := RD.own own5 hcU hrU s'.iP.2.1 s'.iP.2.2
    have own6 := oZ _ _ hrU own5
    exact ⟨x :: P, M, k, d4, (x :: P).length, m4, dM, M.length, cM, rfl, s', own_rf s' own6 hwr hrU, RF.of gM hM (Ext.trans ‹Ext w0 w› eZ), eZ⟩
set_option maxHeartbeats 3200000 in
set_option maxRecDepth 100000 in
theorem l4Fault7_any {n k : Nat} {P M : List Int} {x : Int} {dP dM : Option Addr} {cP cM : Nat} {w0 w : World} [Ext w0 w] (hP : IsInts w0 (.slice dP P.length cP) P) (hM : IsInts w0 (.slice dM M.length cM) M) {G : Nat → Prop} (_gP : GB G (.slice dP P.length cP) P) (gM : GB G (.slice dM M.length cM) M) (s : ST 7 n P M k) (hx : 0 ≤ x ∧ x ≤ 7) :
    Calls Tryz.prog 83 #[.agg #[.int .i64 7, .int .i64 n, .slice dP P.length cP, .slice dM M.length cM, .int .i64 k], .int .i64 x] w (SPost G 7 n w0 w) := by
  unfold SPost
  obtain ⟨W, hW⟩ : ∃ W, W = (w.alloc (.cells #[.int .i64 7, .int .i64 n, .slice dP P.length cP, .slice dM M.length cM, .int .i64 k] 26)).alloc (.cells #[.int .i64 0, .int .i64 0, .slice none 0 0, .slice none 0 0, .int .i64 0] 26) := ⟨_, rfl⟩
  go_enter Tryz.func83, Tryz.ntmps83
  go_upto_region 1 with fail
  rw [← hW]
  have eW : Ext w W := by rw [hW]; infer_instance
  have hWs : W.heap.size = w.heap.size + 2 := by rw [hW]; go_simp
  have hA : BX W w.heap.size (.int .i64 7) (.int .i64 n) (.slice dP P.length cP) (.slice dM M.length cM) (.int .i64 k) := by
    rw [hW]
    exact (BX.alloc w 26 (.int .i64 7) (.int .i64 n) (.slice dP P.length cP) (.slice dM M.length cM) (.int .i64 k)).ext inferInstance
  have hR : BX W (w.heap.size + 1) (.int .i64 0) (.int .i64 0) (.slice none 0 0) (.slice none 0 0) (.int .i64 0) := by
    have h1 := BX.alloc (w.alloc (.cells #[.int .i64 7, .int .i64 n, .slice dP P.length cP, .slice dM M.length cM, .int .i64 k] 26)) 26 (.int .i64 0) (.int .i64 0) (.slice none 0 0) (.slice none 0 0) (.int .i64 0)
    rw [show (w.alloc (.cells #[.int .i64 7, .int .i64 n, .slice dP P.length cP, .slice dM M.length cM, .int .i64 k] 26)).heap.size = w.heap.size + 1 by go_simp] at h1
    rw [hW]
    exact h1
  replace hW := hid hW
  obtain ⟨V, hV⟩ : ∃ V, V = W.alloc (.cells #[.int .i64 7, .int .i64 n, .slice dP P.length cP, .slice dM M.length cM, .int .i64 k] 26) := ⟨_, rfl⟩
  have eWV : Ext W V := by rw [hV]; infer_instance
  have hC1 : BX V (w.heap.size + 2) (.int .i64 7) (.int .i64 n) (.slice dP P.length cP) (.slice dM M.length cM) (.int .i64 k) := by rw [hV, ← hWs]; exact BX.alloc _ _ _ _ _ _ _
  have hVs : V.heap.size = w.heap.size + 3 := by rw [hV]; go_simp
  have hA1 := hA.ext eWV
  have hR1 := hR.ext eWV
  have eV : Ext w V := Ext.trans eW eWV
  obtain ⟨b0, b1, b2, b3, b4, k0, k1, k2, k3, k4⟩ := hA
  go_upto_region 4 with fail
  rw [← hV]
  replace hV := hid hV
  clear b0 b1 b2 b3 b4 k0 k1 k2 k3 k4 hR hWs eW eWV
  obtain ⟨c, hc⟩ : ∃ c, c = w.heap.size + 2 := ⟨_, rfl⟩
  obtain ⟨r, hr⟩ : ∃ r, r = w.heap.size + 1 := ⟨_, rfl⟩
  obtain ⟨a, ha⟩ : ∃ a, a = w.heap.size := ⟨_, rfl⟩
  obtain ⟨Q, hQ⟩ : ∃ Q, Q = V.heap.size := ⟨_, rfl⟩
  rw [← hc] at hC1 ⊢
  rw [← hr] at hR1 ⊢
  rw [← ha] at hA1 hc hr hVs ⊢
  rw [← hQ] at hVs
  have hca : c ≠ a := by omega
  have hcr : c ≠ r := by omega
  have har : a ≠ r := by omega
  have hcQ : c < Q := by omega
  have haQ : a < Q := by omega
  have hrQ : r < Q := by omega
  have hwc : w.heap.size ≤ c := by omega
  have hwr : w.heap.size ≤ r := by omega
  have hwQ : w.heap.size ≤ Q := by omega
  clear hVs
  replace hc := hid hc
  replace hr := hid hr
  replace ha := hid ha
  replace hQ := hid hQ
  have hwc0 : w0.heap.size ≤ c := Nat.le_trans (‹Ext w0 w›).below.size hwc
  have hwr0 : w0.heap.size ≤ r := Nat.le_trans (‹Ext w0 w›).below.size hwr
  have hA := hA1
  obtain ⟨b0, b1, b2, b3, b4, k0, k1, k2, k3, k4⟩ := hA1
  by_cases hlt : P.length = n
  · obtain rfl : n = P.length := hlt.symm
    have hl6 := s.iP.1
    have h0 : 0 < P.length := by have := s.z1; omega
    have hVi := hid (fun (u : World) (e : Ext w0 u) => @l4Victim7_any P.length k P M dP dM cP cM w0 u e hM s h0 hl6)
    have hWo := hid (fun (u : World) (e : Ext w0 u) (j : Nat) (hj : j < P.length) => @l4Without_any _ P j w0 u e hP hj (by omega))
    go_upto_region 5 with fail
    go_wp2_with fail
    refine (hVi.out V (Ext.trans ‹Ext w0 w› eV)).mono ?_
    rintro e w1 ⟨rr, rfl, hrr, e1⟩
    clear b0 b1 b2 b3 b4 k0 k1 k2 k3 k4
    have hC2 := hC1.ext e1
    have hR2 := hR1.ext e1
    have hA2 := hA.ext e1
    have e01 : Ext w w1 := Ext.trans eV e1
    have hQ1 : Q ≤ w1.heap.size := by rw [hQ.out]; exact e1.below.size
    clear hC1 hR1 hA
    have hA2' := hA2
    obtain ⟨b0, b1, b2, b3, b4, k0, k1, k2, k3, k4⟩ := hA2'
    go_wp2_with fail
    refine (hWo.out w1 (Ext.trans ‹Ext w0 w› e01) rr hrr).mono ?_
    rintro e w2 ⟨d2, m2, he, own2, e2⟩
    obtain ⟨L2, hL2⟩ : ∃ L2, L2 = P.take rr ++ P.drop (rr + 1) := ⟨_, rfl⟩
    have hll : L2.length = P.length - 1 := by rw [hL2, len_wo hrr]
    rw [← hll] at he own2
    rw [← hL2] at own2
    have hll2 : L2.length < P.length := by omega
    subst he
    replace hll := hid hll
    replace hL2 := hid hL2
    clear b0 b1 b2 b3 b4 k0 k1 k2 k3 k4
    have hC3 := hC2.ext e2
    have hR3 := hR2.ext e2
    have hA3 := hA2.ext e2
    have hcw1 : c < w1.heap.size := Nat.lt_of_lt_of_le hcQ hQ1
    have hrw1 : r < w1.heap.size := Nat.lt_of_lt_of_le hrQ hQ1
    have own3 := own2.setBelow (p := ⟨c, 2, none⟩) hcw1 (.slice d2 L2.length m2)
    have hC := hC3.set2 (.slice d2 L2.length m2)
    have hR := hR3.other (p := ⟨c, 2, none⟩) hcr (.slice d2 L2.length m2)
    have hA := hA3.other (p := ⟨c, 2, none⟩) hca (.slice d2 L2.length m2)
    have eU : Ext w (w2.setCell ⟨c, 2, none⟩ (.slice d2 L2.length m2)) := @Ext.set _ _ (Ext.trans e01 e2) ⟨c, 2, none⟩ hwc _
    have hQU : Q ≤ (w2.setCell ⟨c, 2, none⟩ (.slice d2 L2.length m2)).heap.size := by
      rw [show (w2.setCell ⟨c, 2, none⟩ (.slice d2 L2.length m2)).heap.size = w2.heap.size by go_simp]
      exact Nat.le_trans hQ1 e2.below.size
    clear hC2 hR2 hA2 own2
    obtain ⟨b0, b1, b2, b3, b4, k0, k1, k2, k3, k4⟩ := hC3
    go_upto_region 9 with fail
    clear b0 b1 b2 b3 b4 k0 k1 k2 k3 k4 hR3 hA3 e2
    generalize w2.setCell ⟨c, 2, none⟩ (.slice d2 L2.length m2) = u0 at *
    have hA' := hA
    obtain ⟨a0, a1, a2, a3, a4, -, -, -, -, -⟩ := hA'
    go_upto_region 11 with fail
    clear a0 a1 a2 a3 a4
    have s1 := s.out (by omega) (by omega) hrr
    rw [← hL2.out] at s1
    have rP := RD.own own3 hcw1 hrw1 s1.iP.2.1 s1.iP.2.2
    have rM := RD.of hM (Ext.trans ‹Ext w0 w› eU) hwc0 hwr0
    have hl6' : L2.length ≤ 6 := by omega
    have s' := s1.in1 (by omega) (by omega) (by omega) hx
    have hCu := hC
    obtain ⟨b0, b1, b2, b3, b4, k0, k1, k2, k3, k4⟩ := hCu
    go_upto_region 11 with fail
    go_wp2_with fail
    refine ((@l4Front_any _ L2 x u0 u0 (Ext.refl _) rP.1 (by omega))).mono ?_
    rintro e u1 ⟨d4, m4, rfl, own4, e4⟩
    have hcU : c < (u0).heap.size := Nat.lt_of_lt_of_le hcQ hQU
    have hrU : r < (u0).heap.size := Nat.lt_of_lt_of_le hrQ hQU
    have hC1 := hC.ext e4
    have hR1 := hR.ext e4
    have hA1 := hA.ext e4
    have hC2 := hC1.set2 (.slice d4 (x :: L2).length m4)
    have hR2 := hR1.other (p := ⟨c, 2, none⟩) hcr (.slice d4 (x :: L2).length m4)
    have hA2 := hA1.other (p := ⟨c, 2, none⟩) hca (.slice d4 (x :: L2).length m4)
    have rM2 := (rM.ext e4).set (p := ⟨c, 2, none⟩) (.inl rfl) (.slice d4 (x :: L2).length m4)
    have e2 : Ext w (u1.setCell ⟨c, 2, none⟩ (.slice d4 (x :: L2).length m4)) := @Ext.set _ _ (Ext.trans eU e4) ⟨c, 2, none⟩ hwc _
    have own5 := own4.setBelow (p := ⟨c, 2, none⟩) hcU (.slice d4 (x :: L2).length m4)
    have hQ2 : Q ≤ (u1.setCell ⟨c, 2, none⟩ (.slice d4 (x :: L2).length m4)).heap.size := by
      rw [show (u1.setCell ⟨c, 2, none⟩ (.slice d4 (x :: L2).length m4)).heap.size = u1.heap.size by go_simp]
      exact Nat.le_trans hQU e4.below.size
    clear b0 b1 b2 b3 b4 k0 k1 k2 k3 k4 hC hR hA
    obtain ⟨b0, b1, b2, b3, b4, k0, k1, k2, k3, k4⟩ := hC1
    go_upto_region 12 with fail
    clear b0 b1 b2 b3 b4 k0 k1 k2 k3 k4 hR1 hA1
    generalize u1.setCell ⟨c, 2, none⟩ (.slice d4 (x :: L2).length m4) = u2 at *
    obtain ⟨b0, b1, b2, b3, b4, k0, k1, k2, k3, k4⟩ := hA2
    go_upto_region 14 with fail
    clear b0 b1 b2 b3 b4 k0 k1 k2 k3 k4
    have hC9 := hC2
    have hR9 := hR2
    have e9 := e2
    obtain ⟨hZ, eZ, oZ⟩ := res_store (v0 := .int .i64 7) (v1 := .int .i64 P.length) (v2 := .slice d4 (x :: L2).length m4) (v3 := .slice dM M.length cM) (v4 := .int .i64 k) hR9 e9 hwr
    obtain ⟨b0, b1, b2, b3, b4, k0, k1, k2, k3, k4⟩ := hC9
    obtain ⟨r0, r1, r2, r3, r4, f0, f1, f2, f3, f4⟩ := hR9
    go_wp2_with fail
    refine bodyPost_ret (res_bx1 rfl rfl hZ) rfl ?_
    have rP6 := RD.own own5 hcU hrU s'.iP.2.1 s'.iP.2.2
    have own6 := oZ _ _ hrU own5
    exact ⟨x :: L2, M, k, d4, (x :: L2).length, m4, dM, M.length, cM, rfl, s', own_rf s' own6 hwr hrU, RF.of gM hM (Ext.trans ‹Ext w0 w› eZ), eZ⟩
  · have hU : V = V := rfl
    have hlz : P.length < n := by have := s.len; omega
    have s' := s.in1 (by omega) (by omega) (by omega) hx
    have rP := RD.of hP (Ext.trans ‹Ext w0 w› eV) hwc0 hwr0
    have rM := RD.of hM (Ext.trans ‹Ext w0 w› eV) hwc0 hwr0
    have hC := hC1
    have hR := hR1
    have eU := eV
    have hQU : Q ≤ V.heap.size := by rw [hQ.out]; exact Nat.le_refl _
    clear hC1 hR1
    have hl6 := s.iP.1
    have hneq : ((P.length : Int) == (n : Int)) = false := beq_eq_false_iff_ne.2 (by omega)
    have hCu := hC
    obtain ⟨b0, b1, b2, b3, b4, k0, k1, k2, k3, k4⟩ := hCu
    go_upto_region 11 with fail
    go_wp2_with fail
    refine ((@l4Front_any _ P x V V (Ext.refl _) rP.1 (by omega))).mono ?_
    rintro e u1 ⟨d4, m4, rfl, own4, e4⟩
    have hcU : c < (V).heap.size := Nat.lt_of_lt_of_le hcQ hQU
    have hrU : r < (V).heap.size := Nat.lt_of_lt_of_le hrQ hQU
    have hC1 := hC.ext e4
    have hR1 := hR.ext e4
    have hA1 := hA.ext e4
    have hC2 := hC1.set2 (.slice d4 (x :: P).length m4)
    have hR2 := hR1.other (p := ⟨c, 2, none⟩) hcr (.slice d4 (x :: P).length m4)
    have hA2 := hA1.other (p := ⟨c, 2, none⟩) hca (.slice d4 (x :: P).length m4)
    have rM2 := (rM.ext e4).set (p := ⟨c, 2, none⟩) (.inl rfl) (.slice d4 (x :: P).length m4)
    have e2 : Ext w (u1.setCell ⟨c, 2, none⟩ (.slice d4 (x :: P).length m4)) := @Ext.set _ _ (Ext.trans eU e4) ⟨c, 2, none⟩ hwc _
    have own5 := own4.setBelow (p := ⟨c, 2, none⟩) hcU (.slice d4 (x :: P).length m4)
    have hQ2 : Q ≤ (u1.setCell ⟨c, 2, none⟩ (.slice d4 (x :: P).length m4)).heap.size := by
      rw [show (u1.setCell ⟨c, 2, none⟩ (.slice d4 (x :: P).length m4)).heap.size = u1.heap.size by go_simp]
      exact Nat.le_trans hQU e4.below.size
    clear b0 b1 b2 b3 b4 k0 k1 k2 k3 k4 hC hR hA
    obtain ⟨b0, b1, b2, b3, b4, k0, k1, k2, k3, k4⟩ := hC1
    go_upto_region 12 with fail
    clear b0 b1 b2 b3 b4 k0 k1 k2 k3 k4 hR1 hA1
    generalize u1.setCell ⟨c, 2, none⟩ (.slice d4 (x :: P).length m4) = u2 at *
    obtain ⟨b0, b1, b2, b3, b4, k0, k1, k2, k3, k4⟩ := hA2
    go_upto_region 14 with fail
    clear b0 b1 b2 b3 b4 k0 k1 k2 k3 k4
    have hC9 := hC2
    have hR9 := hR2
    have e9 := e2
    obtain ⟨hZ, eZ, oZ⟩ := res_store (v0 := .int .i64 7) (v1 := .int .i64 n) (v2 := .slice d4 (x :: P).length m4) (v3 := .slice dM M.length cM) (v4 := .int .i64 k) hR9 e9 hwr
    obtain ⟨b0, b1, b2, b3, b4, k0, k1, k2, k3, k4⟩ := hC9
    obtain ⟨r0, r1, r2, r3, r4, f0, f1, f2, f3, f4⟩ := hR9
    go_wp2_with fail
    refine bodyPost_ret (res_bx1 rfl rfl hZ) rfl ?_
    have rP6 := RD.own own5 hcU hrU s'.iP.2.1 s'.iP.2.2
    have own6 := oZ _ _ hrU own5
    exact ⟨x :: P, M, k, d4, (x :: P).length, m4, dM, M.length, cM, rfl, s', own_rf s' own6 hwr hrU, RF.of gM hM (Ext.trans ‹Ext w0 w› eZ), eZ⟩
set_option maxHeartbeats 3200000 in
set_option maxRecDepth 100000 in
theorem l4Fault4_any {n k : Nat} {P M : List Int} {x : Int} {dP dM : Option Addr} {cP cM : Nat} {w0 w : World} [Ext w0 w] (hP : IsInts w0 (.slice dP P.length cP) P) (hM : IsInts w0 (.slice dM M.length cM) M) {G : Nat → Prop} (_gP : GB G (.slice dP P.length cP) P) (gM : GB G (.slice dM M.length cM) M) (s : ST 4 n P M k) (hx : 0 ≤ x ∧ x ≤ 7) :
    Calls Tryz.prog 83 #[.agg #[.int .i64 4, .int .i64 n, .slice dP P.length cP, .slice dM M.length cM, .int .i64 k], .int .i64 x] w (SPost G 4 n w0 w) := by
  unfold SPost
  obtain ⟨W, hW⟩ : ∃ W, W = (w.alloc (.cells #[.int .i64 4, .int .i64 n, .slice dP P.length cP, .slice dM M.length cM, .int .i64 k] 26)).alloc (.cells #[.int .i64 0, .int .i64 0, .slice none 0 0, .slice none 0 0, .int .i64 0] 26) := ⟨_, rfl⟩
  go_enter Tryz.func83, Tryz.ntmps83
  go_upto_region 1 with fail
  rw [← hW]
  have eW : Ext w W := by rw [hW]; infer_instance
  have hWs : W.heap.size = w.heap.size + 2 := by rw [hW]; go_simp
  have hA : BX W w.heap.size (.int .i64 4) (.int .i64 n) (.slice dP P.length cP) (.slice dM M.length cM) (.int .i64 k) := by
    rw [hW]
    exact (BX.alloc w 26 (.int .i64 4) (.int .i64 n) (.slice dP P.length cP) (.slice dM M.length cM) (.int .i64 k)).ext inferInstance
  have hR : BX W (w.heap.size + 1) (.int .i64 0) (.int .i64 0) (.slice none 0 0) (.slice none 0 0) (.int .i64 0) := by
    have h1 := BX.alloc (w.alloc (.cells #[.int .i64 4, .int .i64 n, .slice dP P.length cP, .slice dM M.length cM, .int .i64 k] 26)) 26 (.int .i64 0) (.int .i64 0) (.slice none 0 0) (.slice none 0 0) (.int .i64 0)
    rw [show (w.alloc (.cells #[.int .i64 4, .int .i64 n, .slice dP P.length cP, .slice dM M.length cM, .int .i64 k] 26)).heap.size = w.heap.size + 1 by go_simp] at h1
    rw [hW]
    exact h1
  replace hW := hid hW
  obtain ⟨V, hV⟩ : ∃ V, V = W.alloc (.cells #[.int .i64 4, .int .i64 n, .slice dP P.length cP, .slice dM M.length cM, .int .i64 k] 26) := ⟨_, rfl⟩
  have eWV : Ext W V := by rw [hV]; infer_instance
  have hC1 : BX V (w.heap.size + 2) (.int .i64 4) (.int .i64 n) (.slice dP P.length cP) (.slice dM M.length cM) (.int .i64 k) := by rw [hV, ← hWs]; exact BX.alloc _ _ _ _ _ _ _
  have hVs : V.heap.size = w.heap.size + 3 := by rw [hV]; go_simp
  have hA1 := hA.ext eWV
  have hR1 := hR.ext eWV
  have eV : Ext w V := Ext.trans eW eWV
  obtain ⟨b0, b1, b2, b3, b4, k0, k1, k2, k3, k4⟩ := hA
  go_upto_region 4 with fail
  rw [← hV]
  replace hV := hid hV
  clear b0 b1 b2 b3 b4 k0 k1 k2 k3 k4 hR hWs eW eWV
  obtain ⟨c, hc⟩ : ∃ c, c = w.heap.size + 2 := ⟨_, rfl⟩
  obtain ⟨r, hr⟩ : ∃ r, r = w.heap.size + 1 := ⟨_, rfl⟩
  obtain ⟨a, ha⟩ : ∃ a, a = w.heap.size := ⟨_, rfl⟩
  obtain ⟨Q, hQ⟩ : ∃ Q, Q = V.heap.size := ⟨_, rfl⟩
  rw [← hc] at hC1 ⊢
  rw [← hr] at hR1 ⊢
  rw [← ha] at hA1 hc hr hVs ⊢
  rw [← hQ] at hVs
  have hca : c ≠ a := by omega
  have hcr : c ≠ r := by omega
  have har : a ≠ r := by omega
  have hcQ : c < Q := by omega
  have haQ : a < Q := by omega
  have hrQ : r < Q := by omega
  have hwc : w.heap.size ≤ c := by omega
  have hwr : w.heap.size ≤ r := by omega
  have hwQ : w.heap.size ≤ Q := by omega
  clear hVs
  replace hc := hid hc
  replace hr := hid hr
  replace ha := hid ha
  replace hQ := hid hQ
  have hwc0 : w0.heap.size ≤ c := Nat.le_trans (‹Ext w0 w›).below.size hwc
  have hwr0 : w0.heap.size ≤ r := Nat.le_trans (‹Ext w0 w›).below.size hwr
  have hA := hA1
  obtain ⟨b0, b1, b2, b3, b4, k0, k1, k2, k3, k4⟩ := hA1
  by_cases hlt : P.length = n
  · obtain rfl : n = P.length := hlt.symm
    have hl6 := s.iP.1
    have h0 : 0 < P.length := by have := s.z1; omega
    have hVi := hid (fun (u : World) (e : Ext w0 u) => @l4Victim4_any P.length k P M dP dM cP cM w0 u e hM s h0 hl6)
    have hWo := hid (fun (u : World) (e : Ext w0 u) (j : Nat) (hj : j < P.length) => @l4Without_any _ P j w0 u e hP hj (by omega))
    go_upto_region 5 with fail
    go_wp2_with fail
    refine (hVi.out V (Ext.trans ‹Ext w0 w› eV)).mono ?_
    rintro e w1 ⟨rr, rfl, hrr, e1⟩
    clear b0 b1 b2 b3 b4 k0 k1 k2 k3 k4
    have hC2 := hC1.ext e1
    have hR2 := hR1.ext e1
    have hA2 := hA.ext e1
    have e01 : Ext w w1 := Ext.trans eV e1
    have hQ1 : Q ≤ w1.heap.size := by rw [hQ.out]; exact e1.below.size
    clear hC1 hR1 hA
    have hA2' := hA2
    obtain ⟨b0, b1, b2, b3, b4, k0, k1, k2, k3, k4⟩ := hA2'
    have hC2' := hC2
    obtain ⟨c0, c1, c2, c3, c4, kc0, kc1, kc2, kc3, kc4⟩ := hC2'
    have hcw1 : c < w1.heap.size := Nat.lt_of_lt_of_le hcQ hQ1
    obtain ⟨g, hg⟩ : ∃ g, g = w1.heap.size := ⟨_, rfl⟩
    have eS : Ext w (w1.setCell ⟨c, 2, none⟩ (.slice (some ⟨g, 0, none⟩) 0 0)) := @Ext.set _ _ e01 ⟨c, 2, none⟩ hwc _
    have hC := (hC2.set2 (.slice (some ⟨g, 0, none⟩) 0 0)).ext (u' := (w1.setCell ⟨c, 2, none⟩ (.slice (some ⟨g, 0, none⟩) 0 0)).alloc (.cells #[] 3)) inferInstance
    have hR := (hR2.other (p := ⟨c, 2, none⟩) hcr (.slice (some ⟨g, 0, none⟩) 0 0)).ext (u' := (w1.setCell ⟨c, 2, none⟩ (.slice (some ⟨g, 0, none⟩) 0 0)).alloc (.cells #[] 3)) inferInstance
    have hA := (hA2.other (p := ⟨c, 2, none⟩) hca (.slice (some ⟨g, 0, none⟩) 0 0)).ext (u' := (w1.setCell ⟨c, 2, none⟩ (.slice (some ⟨g, 0, none⟩) 0 0)).alloc (.cells #[] 3)) inferInstance
    have eU : Ext w ((w1.setCell ⟨c, 2, none⟩ (.slice (some ⟨g, 0, none⟩) 0 0)).alloc (.cells #[] 3)) := Ext.trans eS inferInstance
    have hQU : Q ≤ ((w1.setCell ⟨c, 2, none⟩ (.slice (some ⟨g, 0, none⟩) 0 0)).alloc (.cells #[] 3)).heap.size := by
      rw [show ((w1.setCell ⟨c, 2, none⟩ (.slice (some ⟨g, 0, none⟩) 0 0)).alloc (.cells #[] 3)).heap.size = w1.heap.size + 1 by go_simp]
      omega
    obtain ⟨u0, hu0⟩ : ∃ u0, u0 = (w1.setCell ⟨c, 2, none⟩ (.slice (some ⟨g, 0, none⟩) 0 0)).alloc (.cells #[] 3) := ⟨_, rfl⟩
    rw [← hu0] at hC hR hA eU hQU
    go_upto_region 9 with fail
    rw [← hg, ← hu0]
    clear b0 b1 b2 b3 b4 k0 k1 k2 k3 k4 c0 c1 c2 c3 c4 kc0 kc1 kc2 kc3 kc4 hC2 hR2 hA2
    replace hu0 := hid hu0
    replace hg := hid hg
    have hA' := hA
    obtain ⟨a0, a1, a2, a3, a4, -, -, -, -, -⟩ := hA'
    go_upto_region 11 with fail
    clear a0 a1 a2 a3 a4
    have s0 := s.flush
    obtain ⟨L2, hL2⟩ : ∃ L2 : List Int, L2 = [] := ⟨_, rfl⟩
    have s1 := s0
    rw [← hL2] at s1
    have hll2 : L2.length < P.length := by rw [hL2]; exact h0
    have rP : RD u0 c r (.slice (some ⟨g, 0, none⟩) 0 0) L2 := by
      rw [hL2]
      exact ⟨ints_e _ _ _, fun _ _ _ _ _ h => absurd h (Nat.lt_irrefl 0)⟩
    have rM := RD.of hM (Ext.trans ‹Ext w0 w› eU) hwc0 hwr0
    replace hL2 := hid hL2
    have hl6' : L2.length ≤ 6 := by omega
    have s' := s1.in1 (by omega) (by omega) (by omega) hx
    have hCu := hC
    obtain ⟨b0, b1, b2, b3, b4, k0, k1, k2, k3, k4⟩ := hCu
    go_upto_region 11 with fail
    go_wp2_with fail
    refine ((@l4Front_any _ L2 x u0 u0 (Ext.refl _) rP.1 (by omega))).mono ?_
    rintro e u1 ⟨d4, m4, rfl, own4, e4⟩
    have hcU : c < (u0).heap.size := Nat.lt_of_lt_of_le hcQ hQU
    have hrU : r < (u0).heap.size := Nat.lt_of_lt_of_le hrQ hQU
    have hC1 := hC.ext e4
    have hR1 := hR.ext e4
    have hA1 := hA.ext e4
    have hC2 := hC1.set2 (.slice d4 (x :: L2).length m4)
    have hR2 := hR1.other (p := ⟨c, 2, none⟩) hcr (.slice d4 (x :: L2).length m4)
    have hA2 := hA1.other (p := ⟨c, 2, none⟩) hca (.slice d4 (x :: L2).length m4)
    have rM2 := (rM.ext e4).set (p := ⟨c, 2, none⟩) (.inl rfl) (.slice d4 (x :: L2).length m4)
    have e2 : Ext w (u1.setCell ⟨c, 2, none⟩ (.slice d4 (x :: L2).length m4)) := @Ext.set _ _ (Ext.trans eU e4) ⟨c, 2, none⟩ hwc _
    have own5 := own4.setBelow (p := ⟨c, 2, none⟩) hcU (.slice d4 (x :: L2).length m4)
    have hQ2 : Q ≤ (u1.setCell ⟨c, 2, none⟩ (.slice d4 (x :: L2).length m4)).heap.size := by
      rw [show (u1.setCell ⟨c, 2, none⟩ (.slice d4 (x :: L2).length m4)).heap.size = u1.heap.size by go_simp]
      exact Nat.le_trans hQU e4.below.size
    clear b0 b1 b2 b3 b4 k0 k1 k2 k3 k4 hC hR hA
    obtain ⟨b0, b1, b2, b3, b4, k0, k1, k2, k3, k4⟩ := hC1
    go_upto_region 12 with fail
    clear b0 b1 b2 b3 b4 k0 k1 k2 k3 k4 hR1 hA1
    generalize u1.setCell ⟨c, 2, none⟩ (.slice d4 (x :: L2).length m4) = u2 at *
    obtain ⟨b0, b1, b2, b3, b4, k0, k1, k2, k3, k4⟩ := hA2
    go_upto_region 14 with fail
    clear b0 b1 b2 b3 b4 k0 k1 k2 k3 k4
    have hC9 := hC2
    have hR9 := hR2
    have e9 := e2
    obtain ⟨hZ, eZ, oZ⟩ := res_store (v0 := .int .i64 4) (v1 := .int .i64 P.length) (v2 := .slice d4 (x :: L2).length m4) (v3 := .slice dM M.length cM) (v4 := .int .i64 k) hR9 e9 hwr
    obtain ⟨b0, b1, b2, b3, b4, k0, k1, k2, k3, k4⟩ := hC9
    obtain ⟨r0, r1, r2, r3, r4, f0, f1, f2, f3, f4⟩ := hR9
    go_wp2_with fail
    refine bodyPost_ret (res_bx1 rfl rfl hZ) rfl ?_
    have rP6 := RD.own own5 hcU hrU s'.iP.2.1 s'.iP.2.2
    have own6 := oZ _ _ hrU own5
    exact ⟨x :: L2, M, k, d4, (x :: L2).length, m4, dM, M.length, cM, rfl, s', own_rf s' own6 hwr hrU, RF.of gM hM (Ext.trans ‹Ext w0 w› eZ), eZ⟩
  · have hU : V = V := rfl
    have hlz : P.length < n := by have := s.len; omega
    have s' := s.in1 (by omega) (by omega) (by omega) hx
    have rP := RD.of hP (Ext.trans ‹Ext w0 w› eV) hwc0 hwr0
    have rM := RD.of hM (Ext.trans ‹Ext w0 w› eV) hwc0 hwr0
    have hC := hC1
    have hR := hR1
    have eU := eV
    have hQU : Q ≤ V.heap.size := by rw [hQ.out]; exact Nat.le_refl _
    clear hC1 hR1
    have hl6 := s.iP.1
    have hneq : ((P.length : Int) == (n : Int)) = false := beq_eq_false_iff_ne.2 (by omega)
    have hCu := hC
    obtain ⟨b0, b1, b2, b3, b4, k0, k1, k2, k3, k4⟩ := hCu
    go_upto_region 11 with fail
    go_wp2_with fail
    refine ((@l4Front_any _ P x V V (Ext.refl _) rP.1 (by omega))).mono ?_
    rintro e u1 ⟨d4, m4, rfl, own4, e4⟩
    have hcU : c < (V).heap.size := Nat.lt_of_lt_of_le hcQ hQU
    have hrU : r < (V).heap.size := Nat.lt_of_lt_of_le hrQ hQU
    have hC1 := hC.ext e4
    have hR1 := hR.ext e4
    have hA1 := hA.ext e4
    have hC2 := hC1.set2 (.slice d4 (x :: P).length m4)
    have hR2 := hR1.other (p := ⟨c, 2, none⟩) hcr (.slice d4 (x :: P).length m4)
    have hA2 := hA1.other (p := ⟨c, 2, none⟩) hca (.slice d4 (x :: P).length m4)
    have rM2 := (rM.ext e4).set (p := ⟨c, 2, none⟩) (.inl rfl) (.slice d4 (x :: P).length m4)
    have e2 : Ext w (u1.setCell ⟨c, 2, none⟩ (.slice d4 (x :: P).length m4)) := @Ext.set _ _ (Ext.trans eU e4) ⟨c, 2, none⟩ hwc _
    have own5 := own4.setBelow (p := ⟨c, 2, none⟩) hcU (.slice d4 (x :: P).length m4)
    have hQ2 : Q ≤ (u1.setCell ⟨c, 2, none⟩ (.slice d4 (x :: P).length m4)).heap.size := by
      rw [show (u1.setCell ⟨c, 2, none⟩ (.slice d4 (x :: P).length m4)).heap.size = u1.heap.size by go_simp]
      exact Nat.le_trans hQU e4.below.size
    clear b0 b1 b2 b3 b4 k0 k1 k2 k3 k4 hC hR hA
    obtain ⟨b0, b1, b2, b3, b4, k0, k1, k2, k3, k4⟩ := hC1
    go_upto_region 12 with fail
    clear b0 b1 b2 b3 b4 k0 k1 k2 k3 k4 hR1 hA1
    generalize u1.setCell ⟨c, 2, none⟩ (.slice d4 (x :: P).length m4) = u2 at *
    obtain ⟨b0, b1, b2, b3, b4, k0, k1, k2, k3, k4⟩ := hA2
    go_upto_region 14 with fail
    clear b0 b1 b2 b3 b4 k0 k1 k2 k3 k4
    have hC9 := hC2
    have hR9 := hR2
    have e9 := e2
    obtain ⟨hZ, eZ, oZ⟩ := res_store (v0 := .int .i64 4) (v1 := .int .i64 n) (v2 := .slice d4 (x :: P).length m4) (v3 := .slice dM M.length cM) (v4 := .int .i64 k) hR9 e9 hwr
    obtain ⟨b0, b1, b2, b3, b4, k0, k1, k2, k3, k4⟩ := hC9
    obtain ⟨r0, r1, r2, r3, r4, f0, f1, f2, f3, f4⟩ := hR9
    go_wp2_with fail
    refine bodyPost_ret (res_bx1 rfl rfl hZ) rfl ?_
    have rP6 := RD.own own5 hcU hrU s'.iP.2.1 s'.iP.2.2
    have own6 := oZ _ _ hrU own5
    exact ⟨x :: P, M, k, d4, (x :: P).length, m4, dM, M.length, cM, rfl, s', own_rf s' own6 hwr hrU, RF.of gM hM (Ext.trans ‹Ext w0 w› eZ), eZ⟩
set_option maxHeartbeats 3200000 in
set_option maxRecDepth 100000 in
theorem l4Fault5_any {n k : Nat} {P M : List Int} {x : Int} {dP dM : Option Addr} {cP cM : Nat} {w0 w : World} [Ext w0 w] (hP : IsInts w0 (.slice dP P.length cP) P) (hM : IsInts w0 (.slice dM M.length cM) M) {G : Nat → Prop} (_gP : GB G (.slice dP P.length cP) P) (_gM : GB G (.slice dM M.length cM) M) (s : ST 5 n P M k) (hx : 0 ≤ x ∧ x ≤ 7) :
    Calls Tryz.prog 83 #[.agg #[.int .i64 5, .int .i64 n, .slice dP P.length cP, .slice dM M.length cM, .int .i64 k], .int .i64 x] w (SPost G 5 n w0 w) := by
  unfold SPost
  obtain ⟨W, hW⟩ : ∃ W, W = (w.alloc (.cells #[.int .i64 5, .int .i64 n, .slice dP P.length cP, .slice dM M.length cM, .int .i64 k] 26)).alloc (.cells #[.int .i64 0, .int .i64 0, .slice none 0 0, .slice none 0 0, .int .i64 0] 26) := ⟨_, rfl⟩
  go_enter Tryz.func83, Tryz.ntmps83
  go_upto_region 1 with fail
  rw [← hW]
  have eW : Ext w W := by rw [hW]; infer_instance
  have hWs : W.heap.size = w.heap.size + 2 := by rw [hW]; go_simp
  have hA : BX W w.heap.size (.int .i64 5) (.int .i64 n) (.slice dP P.length cP) (.slice dM M.length cM) (.int .i64 k) := by
    rw [hW]
    exact (BX.alloc w 26 (.int .i64 5) (.int .i64 n) (.slice dP P.length cP) (.slice dM M.length cM) (.int .i64 k)).ext inferInstance
  have hR : BX W (w.heap.size + 1) (.int .i64 0) (.int .i64 0) (.slice none 0 0) (.slice none 0 0) (.int .i64 0) := by
    have h1 := BX.alloc (w.alloc (.cells #[.int .i64 5, .int .i64 n, .slice dP P.length cP, .slice dM M.length cM, .int .i64 k] 26)) 26 (.int .i64 0) (.int .i64 0) (.slice none 0 0) (.slice none 0 0) (.int .i64 0)
    rw [show (w.alloc (.cells #[.int .i64 5, .int .i64 n, .slice dP P.length cP, .slice dM M.length cM, .int .i64 k] 26)).heap.size = w.heap.size + 1 by go_simp] at h1
    rw [hW]
    exact h1
  replace hW := hid hW
  obtain ⟨V, hV⟩ : ∃ V, V = W.alloc (.cells #[.int .i64 5, .int .i64 n, .slice dP P.length cP, .slice dM M.length cM, .int .i64 k] 26) := ⟨_, rfl⟩
  have eWV : Ext W V := by rw [hV]; infer_instance
  have hC1 : BX V (w.heap.size + 2) (.int .i64 5) (.int .i64 n) (.slice dP P.length cP) (.slice dM M.length cM) (.int .i64 k) := by rw [hV, ← hWs]; exact BX.alloc _ _ _ _ _ _ _
  have hVs : V.heap.size = w.heap.size + 3 := by rw [hV]; go_simp
  have hA1 := hA.ext eWV
  have hR1 := hR.ext eWV
  have eV : Ext w V := Ext.trans eW eWV
  obtain ⟨b0, b1, b2, b3, b4, k0, k1, k2, k3, k4⟩ := hA
  go_upto_region 4 with fail
  rw [← hV]
  replace hV := hid hV
  clear b0 b1 b2 b3 b4 k0 k1 k2 k3 k4 hR hWs eW eWV
  obtain ⟨c, hc⟩ : ∃ c, c = w.heap.size + 2 := ⟨_, rfl⟩
  obtain ⟨r, hr⟩ : ∃ r, r = w.heap.size + 1 := ⟨_, rfl⟩
  obtain ⟨a, ha⟩ : ∃ a, a = w.heap.size := ⟨_, rfl⟩
  obtain ⟨Q, hQ⟩ : ∃ Q, Q = V.heap.size := ⟨_, rfl⟩
  rw [← hc] at hC1 ⊢
  rw [← hr] at hR1 ⊢
  rw [← ha] at hA1 hc hr hVs ⊢
  rw [← hQ] at hVs
  have hca : c ≠ a := by omega
  have hcr : c ≠ r := by omega
  have har : a ≠ r := by omega
  have hcQ : c < Q := by omega
  have haQ : a < Q := by omega
  have hrQ : r < Q := by omega
  have hwc : w.heap.size ≤ c := by omega
  have hwr : w.heap.size ≤ r := by omega
  have hwQ : w.heap.size ≤ Q := by omega
  clear hVs
  replace hc := hid hc
  replace hr := hid hr
  replace ha := hid ha
  replace hQ := hid hQ
  have hwc0 : w0.heap.size ≤ c := Nat.le_trans (‹Ext w0 w›).below.size hwc
  have hwr0 : w0.heap.size ≤ r := Nat.le_trans (‹Ext w0 w›).below.size hwr
  have hA := hA1
  obtain ⟨b0, b1, b2, b3, b4, k0, k1, k2, k3, k4⟩ := hA1
  have hml := hid (s.mks (.inl rfl))
  by_cases hlt : P.length = n
  · obtain rfl : n = P.length := hlt.symm
    have hl6 := s.iP.1
    have h0 : 0 < P.length := by have := s.z1; omega
    have hVi := hid (fun (u : World) (e : Ext w0 u) => @l4Victim5_any P.length k P M dP dM cP cM w0 u e hM s h0 hl6)
    have hWo := hid (fun (u : World) (e : Ext w0 u) (j : Nat) (hj : j < P.length) => @l4Without_any _ P j w0 u e hP hj (by omega))
    have hWm := hid (fun (u : World) (e : Ext w0 u) (j : Nat) (hj : j < M.length) => @l4Without_any _ M j w0 u e hM hj (by have := hml.out; omega))
    go_upto_region 5 with fail
    go_wp2_with fail
    refine (hVi.out V (Ext.trans ‹Ext w0 w› eV)).mono ?_
    rintro e w1 ⟨rr, rfl, hrr, e1⟩
    clear b0 b1 b2 b3 b4 k0 k1 k2 k3 k4
    have hC2 := hC1.ext e1
    have hR2 := hR1.ext e1
    have hA2 := hA.ext e1
    have e01 : Ext w w1 := Ext.trans eV e1
    have hQ1 : Q ≤ w1.heap.size := by rw [hQ.out]; exact e1.below.size
    clear hC1 hR1 hA
    have hA2' := hA2
    obtain ⟨b0, b1, b2, b3, b4, k0, k1, k2, k3, k4⟩ := hA2'
    go_wp2_with fail
    refine (hWo.out w1 (Ext.trans ‹Ext w0 w› e01) rr hrr).mono ?_
    rintro e w2 ⟨d2, m2, he, own2, e2⟩
    obtain ⟨L2, hL2⟩ : ∃ L2, L2 = P.take rr ++ P.drop (rr + 1) := ⟨_, rfl⟩
    have hll : L2.length = P.length - 1 := by rw [hL2, len_wo hrr]
    rw [← hll] at he own2
    rw [← hL2] at own2
    have hll2 : L2.length < P.length := by omega
    subst he
    replace hll := hid hll
    replace hL2 := hid hL2
    clear b0 b1 b2 b3 b4 k0 k1 k2 k3 k4
    have hC3 := hC2.ext e2
    have hR3 := hR2.ext e2
    have hA3 := hA2.ext e2
    have hcw1 : c < w1.heap.size := Nat.lt_of_lt_of_le hcQ hQ1
    have hrw1 : r < w1.heap.size := Nat.lt_of_lt_of_le hrQ hQ1
    have own3 := own2.setBelow (p := ⟨c, 2, none⟩) hcw1 (.slice d2 L2.length m2)
    have hC := hC3.set2 (.slice d2 L2.length m2)
    have hR := hR3.other (p := ⟨c, 2, none⟩) hcr (.slice d2 L2.length m2)
    have hA := hA3.other (p := ⟨c, 2, none⟩) hca (.slice d2 L2.length m2)
    have eU : Ext w (w2.setCell ⟨c, 2, none⟩ (.slice d2 L2.length m2)) := @Ext.set _ _ (Ext.trans e01 e2) ⟨c, 2, none⟩ hwc _
    have hQU : Q ≤ (w2.setCell ⟨c, 2, none⟩ (.slice d2 L2.length m2)).heap.size := by
      rw [show (w2.setCell ⟨c, 2, none⟩ (.slice d2 L2.length m2)).heap.size = w2.heap.size by go_simp]
      exact Nat.le_trans hQ1 e2.below.size
    clear hC2 hR2 hA2 own2
    obtain ⟨b0, b1, b2, b3, b4, k0, k1, k2, k3, k4⟩ := hC3
    go_upto_region 9 with fail
    clear b0 b1 b2 b3 b4 k0 k1 k2 k3 k4 hR3 hA3 e2
    generalize w2.setCell ⟨c, 2, none⟩ (.slice d2 L2.length m2) = u0 at *
    have hA' := hA
    obtain ⟨a0, a1, a2, a3, a4, -, -, -, -, -⟩ := hA'
    go_wp2_with fail
    refine (hWm.out u0 (Ext.trans ‹Ext w0 w› eU) rr (by have := hml.out; omega)).mono ?_
    rintro e u1 ⟨d3, m3, he, own4, e4⟩
    obtain ⟨L3, hL3⟩ : ∃ L3, L3 = M.take rr ++ M.drop (rr + 1) := ⟨_, rfl⟩
    have hll3 : L3.length = M.length - 1 := by rw [hL3, len_wo (by have := hml.out; omega)]
    rw [← hll3] at he own4
    rw [← hL3] at own4
    have hll4 : L3.length ≤ 6 := by have := hml.out; omega
    subst he
    replace hll3 := hid hll3
    replace hL3 := hid hL3
    clear a0 a1 a2 a3 a4
    have hC4 := hC.ext e4
    have hR4 := hR.ext e4
    have hA4 := hA.ext e4
    have hcu0 : c < u0.heap.size := Nat.lt_of_lt_of_le hcQ hQU
    have hru0 : r < u0.heap.size := Nat.lt_of_lt_of_le hrQ hQU
    have own5 := own4.setBelow (p := ⟨c, 3, none⟩) hcu0 (.slice d3 L3.length m3)
    have own6 := (own3.ext (e := e4)).setBelow (p := ⟨c, 3, none⟩) hcw1 (.slice d3 L3.length m3)
    have hC5 := hC4.set3 (.slice d3 L3.length m3)
    have hR5 := hR4.other (p := ⟨c, 3, none⟩) hcr (.slice d3 L3.length m3)
    have hA5 := hA4.other (p := ⟨c, 3, none⟩) hca (.slice d3 L3.length m3)
    have eU5 : Ext w (u1.setCell ⟨c, 3, none⟩ (.slice d3 L3.length m3)) := @Ext.set _ _ (Ext.trans eU e4) ⟨c, 3, none⟩ hwc _
    have hQU5 : Q ≤ (u1.setCell ⟨c, 3, none⟩ (.slice d3 L3.length m3)).heap.size := by
      rw [show (u1.setCell ⟨c, 3, none⟩ (.slice d3 L3.length m3)).heap.size = u1.heap.size by go_simp]
      exact Nat.le_trans hQU e4.below.size
    clear hC hR hA hQU eU own4 own3
    obtain ⟨b0, b1, b2, b3, b4, k0, k1, k2, k3, k4⟩ := hC4
    go_upto_region 11 with fail
    clear b0 b1 b2 b3 b4 k0 k1 k2 k3 k4 hR4 hA4 e4
    generalize u1.setCell ⟨c, 3, none⟩ (.slice d3 L3.length m3) = u5 at *
    have hC := hC5
    have hR := hR5
    have hA := hA5
    have eU := eU5
    have hQU := hQU5
    clear hC5 hR5 hA5 eU5 hQU5
    have s1 := s.outM hrr
    rw [← hL2.out, ← hL3.out] at s1
    have rP := RD.own own6 hcw1 hrw1 s1.iP.2.1 s1.iP.2.2
    have rM := RD.own own5 hcu0 hru0 s1.iM.2.1 s1.iM.2.2
    clear own5 own6
    have hl6' : L2.length ≤ 6 := by omega
    have s' := s1.in5 (by omega) hx
    have hCu := hC
    obtain ⟨b0, b1, b2, b3, b4, k0, k1, k2, k3, k4⟩ := hCu
    go_upto_region 11 with fail
    go_wp2_with fail
    refine ((@l4Front_any _ L2 x u5 u5 (Ext.refl _) rP.1 (by omega))).mono ?_
    rintro e u1 ⟨d4, m4, rfl, own4, e4⟩
    have hcU : c < (u5).heap.size := Nat.lt_of_lt_of_le hcQ hQU
    have hrU : r < (u5).heap.size := Nat.lt_of_lt_of_le hrQ hQU
    have hC1 := hC.ext e4
    have hR1 := hR.ext e4
    have hA1 := hA.ext e4
    have hC2 := hC1.set2 (.slice d4 (x :: L2).length m4)
    have hR2 := hR1.other (p := ⟨c, 2, none⟩) hcr (.slice d4 (x :: L2).length m4)
    have hA2 := hA1.other (p := ⟨c, 2, none⟩) hca (.slice d4 (x :: L2).length m4)
    have rM2 := (rM.ext e4).set (p := ⟨c, 2, none⟩) (.inl rfl) (.slice d4 (x :: L2).length m4)
    have e2 : Ext w (u1.setCell ⟨c, 2, none⟩ (.slice d4 (x :: L2).length m4)) := @Ext.set _ _ (Ext.trans eU e4) ⟨c, 2, none⟩ hwc _
    have own5 := own4.setBelow (p := ⟨c, 2, none⟩) hcU (.slice d4 (x :: L2).length m4)
    have hQ2 : Q ≤ (u1.setCell ⟨c, 2, none⟩ (.slice d4 (x :: L2).length m4)).heap.size := by
      rw [show (u1.setCell ⟨c, 2, none⟩ (.slice d4 (x :: L2).length m4)).heap.size = u1.heap.size by go_simp]
      exact Nat.le_trans hQU e4.below.size
    clear b0 b1 b2 b3 b4 k0 k1 k2 k3 k4 hC hR hA
    obtain ⟨b0, b1, b2, b3, b4, k0, k1, k2, k3, k4⟩ := hC1
    go_upto_region 12 with fail
    clear b0 b1 b2 b3 b4 k0 k1 k2 k3 k4 hR1 hA1
    generalize u1.setCell ⟨c, 2, none⟩ (.slice d4 (x :: L2).length m4) = u2 at *
    obtain ⟨b0, b1, b2, b3, b4, k0, k1, k2, k3, k4⟩ := hA2
    have hC2' := hC2
    obtain ⟨c0, c1, c2, c3, c4, kc0, kc1, kc2, kc3, kc4⟩ := hC2'
    go_wp2_with fail
    refine ((@l4Front_any _ L3 1 u2 u2 (Ext.refl _) rM2.1 (by omega))).mono ?_
    rintro e u3 ⟨d6, m6, rfl, own6, e6⟩
    clear b0 b1 b2 b3 b4 k0 k1 k2 k3 k4 c0 c1 c2 c3 c4 kc0 kc1 kc2 kc3 kc4
    have hcU2 : c < u2.heap.size := Nat.lt_of_lt_of_le hcQ hQ2
    have hrU2 : r < u2.heap.size := Nat.lt_of_lt_of_le hrQ hQ2
    have hC3 := hC2.ext e6
    have hR3 := hR2.ext e6
    have hC9 := hC3.set3 (.slice d6 (1 :: L3).length m6)
    have hR9 := hR3.other (p := ⟨c, 3, none⟩) hcr (.slice d6 (1 :: L3).length m6)
    have own7 := own6.setBelow (p := ⟨c, 3, none⟩) hcU2 (.slice d6 (1 :: L3).length m6)
    have own8 := (own5.ext (e := e6)).setBelow (p := ⟨c, 3, none⟩) hcU (.slice d6 (1 :: L3).length m6)
    have e9 : Ext w (u3.setCell ⟨c, 3, none⟩ (.slice d6 (1 :: L3).length m6)) := @Ext.set _ _ (Ext.trans e2 e6) ⟨c, 3, none⟩ hwc _
    clear hC2 hR2 own5 own6
    obtain ⟨b0, b1, b2, b3, b4, k0, k1, k2, k3, k4⟩ := hC3
    go_upto_region 14 with fail
    clear b0 b1 b2 b3 b4 k0 k1 k2 k3 k4 hR3 e6
    generalize u3.setCell ⟨c, 3, none⟩ (.slice d6 (1 :: L3).length m6) = w9 at *
    obtain ⟨hZ, eZ, oZ⟩ := res_store (v0 := .int .i64 5) (v1 := .int .i64 P.length) (v2 := .slice d4 (x :: L2).length m4) (v3 := .slice d6 (1 :: L3).length m6) (v4 := .int .i64 k) hR9 e9 hwr
    obtain ⟨b0, b1, b2, b3, b4, k0, k1, k2, k3, k4⟩ := hC9
    obtain ⟨r0, r1, r2, r3, r4, f0, f1, f2, f3, f4⟩ := hR9
    go_wp2_with fail
    refine bodyPost_ret (res_bx1 rfl rfl hZ) rfl ?_
    have own9 := oZ _ _ hrU2 own7
    have own10 := oZ _ _ hrU own8
    exact ⟨x :: L2, 1 :: L3, k, d4, (x :: L2).length, m4, d6, (1 :: L3).length, m6, rfl, s', own_rf s' own10 hwr hrU, own_rfM s' own9 hwr hrU2, eZ⟩
  · have hlz : P.length < n := by have := s.len; omega
    have s' := s.in5 (by omega) hx
    have rP := RD.of hP (Ext.trans ‹Ext w0 w› eV) hwc0 hwr0
    have rM := RD.of hM (Ext.trans ‹Ext w0 w› eV) hwc0 hwr0
    have hC := hC1
    have hR := hR1
    have eU := eV
    have hQU : Q ≤ V.heap.size := by rw [hQ.out]; exact Nat.le_refl _
    clear hC1 hR1
    have hl6 := s.iP.1
    have hl7 := s.iM.1
    have hneq : ((P.length : Int) == (n : Int)) = false := beq_eq_false_iff_ne.2 (by omega)
    have hCu := hC
    obtain ⟨b0, b1, b2, b3, b4, k0, k1, k2, k3, k4⟩ := hCu
    go_upto_region 11 with fail
    go_wp2_with fail
    refine ((@l4Front_any _ P x V V (Ext.refl _) rP.1 (by omega))).mono ?_
    rintro e u1 ⟨d4, m4, rfl, own4, e4⟩
    have hcU : c < (V).heap.size := Nat.lt_of_lt_of_le hcQ hQU
    have hrU : r < (V).heap.size := Nat.lt_of_lt_of_le hrQ hQU
    have hC1 := hC.ext e4
    have hR1 := hR.ext e4
    have hA1 := hA.ext e4
    have hC2 := hC1.set2 (.slice d4 (x :: P).length m4)
    have hR2 := hR1.other (p := ⟨c, 2, none⟩) hcr (.slice d4 (x :: P).length m4)
    have hA2 := hA1.other (p := ⟨c, 2, none⟩) hca (.slice d4 (x :: P).length m4)
    have rM2 := (rM.ext e4).set (p := ⟨c, 2, none⟩) (.inl rfl) (.slice d4 (x :: P).length m4)
    have e2 : Ext w (u1.setCell ⟨c, 2, none⟩ (.slice d4 (x :: P).length m4)) := @Ext.set _ _ (Ext.trans eU e4) ⟨c, 2, none⟩ hwc _
    have own5 := own4.setBelow (p := ⟨c, 2, none⟩) hcU (.slice d4 (x :: P).length m4)
    have hQ2 : Q ≤ (u1.setCell ⟨c, 2, none⟩ (.slice d4 (x :: P).length m4)).heap.size := by
      rw [show (u1.setCell ⟨c, 2, none⟩ (.slice d4 (x :: P).length m4)).heap.size = u1.heap.size by go_simp]
      exact Nat.le_trans hQU e4.below.size
    clear b0 b1 b2 b3 b4 k0 k1 k2 k3 k4 hC hR hA
    obtain ⟨b0, b1, b2, b3, b4, k0, k1, k2, k3, k4⟩ := hC1
    go_upto_region 12 with fail
    clear b0 b1 b2 b3 b4 k0 k1 k2 k3 k4 hR1 hA1
    generalize u1.setCell ⟨c, 2, none⟩ (.slice d4 (x :: P).length m4) = u2 at *
    obtain ⟨b0, b1, b2, b3, b4, k0, k1, k2, k3, k4⟩ := hA2
    have hC2' := hC2
    obtain ⟨c0, c1, c2, c3, c4, kc0, kc1, kc2, kc3, kc4⟩ := hC2'
    go_wp2_with fail
    refine ((@l4Front_any _ M 1 u2 u2 (Ext.refl _) rM2.1 (by omega))).mono ?_
    rintro e u3 ⟨d6, m6, rfl, own6, e6⟩
    clear b0 b1 b2 b3 b4 k0 k1 k2 k3 k4 c0 c1 c2 c3 c4 kc0 kc1 kc2 kc3 kc4
    have hcU2 : c < u2.heap.size := Nat.lt_of_lt_of_le hcQ hQ2
    have hrU2 : r < u2.heap.size := Nat.lt_of_lt_of_le hrQ hQ2
    have hC3 := hC2.ext e6
    have hR3 := hR2.ext e6
    have hC9 := hC3.set3 (.slice d6 (1 :: M).length m6)
    have hR9 := hR3.other (p := ⟨c, 3, none⟩) hcr (.slice d6 (1 :: M).length m6)
    have own7 := own6.setBelow (p := ⟨c, 3, none⟩) hcU2 (.slice d6 (1 :: M).length m6)
    have own8 := (own5.ext (e := e6)).setBelow (p := ⟨c, 3, none⟩) hcU (.slice d6 (1 :: M).length m6)
    have e9 : Ext w (u3.setCell ⟨c, 3, none⟩ (.slice d6 (1 :: M).length m6)) := @Ext.set _ _ (Ext.trans e2 e6) ⟨c, 3, none⟩ hwc _
    clear hC2 hR2 own5 own6
    obtain ⟨b0, b1, b2, b3, b4, k0, k1, k2, k3, k4⟩ := hC3
    go_upto_region 14 with fail
    clear b0 b1 b2 b3 b4 k0 k1 k2 k3 k4 hR3 e6
    generalize u3.setCell ⟨c, 3, none⟩ (.slice d6 (1 :: M).length m6) = w9 at *
    obtain ⟨hZ, eZ, oZ⟩ := res_store (v0 := .int .i64 5) (v1 := .int .i64 n) (v2 := .slice d4 (x :: P).length m4) (v3 := .slice d6 (1 :: M).length m6) (v4 := .int .i64 k) hR9 e9 hwr
    obtain ⟨b0, b1, b2, b3, b4, k0, k1, k2, k3, k4⟩ := hC9
    obtain ⟨r0, r1, r2, r3, r4, f0, f1, f2, f3, f4⟩ := hR9
    go_wp2_with fail
    refine bodyPost_ret (res_bx1 rfl rfl hZ) rfl ?_
    have own9 := oZ _ _ hrU2 own7
    have own10 := oZ _ _ hrU own8
    exact ⟨x :: P, 1 :: M, k, d4, (x :: P).length, m4, d6, (1 :: M).length, m6, rfl, s', own_rf s' own10 hwr hrU, own_rfM s' own9 hwr hrU2, eZ⟩
end Go.Proofs.YtaphnkgjcmneoaaGreatDoor
