/- A hit. -/
import Derived.Test.YtaphnkgjcmneoaaGreatDoorCsy
namespace Go.Proofs.YtaphnkgjcmneoaaGreatDoor
open Go.RowKit


theorem l1LeastZ_any (a b : Int) (w : World) :
    Calls Tryz.prog 63 #[.int .i64 a, .int .i64 b] w fun e w' => e = .returned (.int .i64 (if a < b then a else b)) ∧ w = w' := by
  by_cases h : a < b
  · rw [if_pos h]
    go_enter Tryz.func63, Tryz.ntmps63
    go_wp2_with fail
    go_ret
    exact ⟨rfl, rfl⟩
  · rw [if_neg h]
    go_enter Tryz.func63, Tryz.ntmps63
    go_wp2_with fail
    go_ret
    exact ⟨rfl, rfl⟩
set_option maxHeartbeats 3200000 in
set_option maxRecDepth 100000 in
theorem l4Hit1_any {n k j : Nat} {P M : List Int} {dP dM : Option Addr} {cP cM : Nat} {w0 w : World} [Ext w0 w] (hP : IsInts w0 (.slice dP P.length cP) P) (hM : IsInts w0 (.slice dM M.length cM) M) {G : Nat → Prop} (_gP : GB G (.slice dP P.length cP) P) (gM : GB G (.slice dM M.length cM) M) (s : ST 1 n P M k) (hj : j < P.length) :
    Calls Tryz.prog 82 #[.agg #[.int .i64 1, .int .i64 n, .slice dP P.length cP, .slice dM M.length cM, .int .i64 k], .int .i64 j] w (SPost G 1 n w0 w) := by
  unfold SPost
  have hnP : 0 < P.length := by omega
  obtain ⟨b, o, hd, -⟩ := hP.at (w' := w0) hj
  cases hd
  have hpg := hid (fun (u : World) (e : Ext w0 u) => (show u.cell? ⟨b, o + j, none⟩ = some (.int .i64 (nth P j)) from by
    obtain ⟨b', o', hd, hc⟩ := hP.at (w' := u) hj
    cases hd
    exact hc))
  have hWo := hid (fun (u : World) (e : Ext w0 u) => @l4Without_any _ P j w0 u e hP hj (by have := s.iP.1; omega))
  obtain ⟨W, hW⟩ : ∃ W, W = (w.alloc (.cells #[.int .i64 1, .int .i64 n, .slice (some ⟨b, o, none⟩) P.length cP, .slice dM M.length cM, .int .i64 k] 26)).alloc (.cells #[.int .i64 0, .int .i64 0, .slice none 0 0, .slice none 0 0, .int .i64 0] 26) := ⟨_, rfl⟩
  go_enter Tryz.func82, Tryz.ntmps82
  go_upto_region 1 with fail
  rw [← hW]
  have eW : Ext w W := by rw [hW]; infer_instance
  have hWs : W.heap.size = w.heap.size + 2 := by rw [hW]; go_simp
  have hA : BX W w.heap.size (.int .i64 1) (.int .i64 n) (.slice (some ⟨b, o, none⟩) P.length cP) (.slice dM M.length cM) (.int .i64 k) := by
    rw [hW]
    exact (BX.alloc w 26 (.int .i64 1) (.int .i64 n) (.slice (some ⟨b, o, none⟩) P.length cP) (.slice dM M.length cM) (.int .i64 k)).ext inferInstance
  have hR : BX W (w.heap.size + 1) (.int .i64 0) (.int .i64 0) (.slice none 0 0) (.slice none 0 0) (.int .i64 0) := by
    have h1 := BX.alloc (w.alloc (.cells #[.int .i64 1, .int .i64 n, .slice (some ⟨b, o, none⟩) P.length cP, .slice dM M.length cM, .int .i64 k] 26)) 26 (.int .i64 0) (.int .i64 0) (.slice none 0 0) (.slice none 0 0) (.int .i64 0)
    rw [show (w.alloc (.cells #[.int .i64 1, .int .i64 n, .slice (some ⟨b, o, none⟩) P.length cP, .slice dM M.length cM, .int .i64 k] 26)).heap.size = w.heap.size + 1 by go_simp] at h1
    rw [hW]
    exact h1
  replace hW := hid hW
  obtain ⟨V, hV⟩ : ∃ V, V = W.alloc (.cells #[.int .i64 1, .int .i64 n, .slice (some ⟨b, o, none⟩) P.length cP, .slice dM M.length cM, .int .i64 k] 26) := ⟨_, rfl⟩
  have eWV : Ext W V := by rw [hV]; infer_instance
  have hC1 : BX V (w.heap.size + 2) (.int .i64 1) (.int .i64 n) (.slice (some ⟨b, o, none⟩) P.length cP) (.slice dM M.length cM) (.int .i64 k) := by rw [hV, ← hWs]; exact BX.alloc _ _ _ _ _ _ _
  have hVs : V.heap.size = w.heap.size + 3 := by rw [hV]; go_simp
  have hA1 := hA.ext eWV
  have hR1 := hR.ext eWV
  have eV : Ext w V := Ext.trans eW eWV
  obtain ⟨b0, b1, b2, b3, b4, k0, k1, k2, k3, k4⟩ := hA
  go_upto_region 2 with fail
  rw [← hV]
  replace hV := hid hV
  clear b0 b1 b2 b3 b4 k0 k1 k2 k3 k4 hR hWs eW eWV
  obtain ⟨c, hc⟩ : ∃ c, c = w.heap.size + 2 := ⟨_, rfl⟩
  obtain ⟨r, hr⟩ : ∃ r, r = w.heap.size + 1 := ⟨_, rfl⟩
  obtain ⟨a, ha⟩ : ∃ a, a = w.heap.size := ⟨_, rfl⟩
  obtain ⟨Q, hQ⟩ : ∃ Q, Q = V.heap.size := ⟨_, rfl⟩
  rw [← hc] at hC1 ⊢
  rw [← hr] at hR1 ⊢
  rw [← ha] at hA1 hc hr hVs ⊢
  rw [← hQ] at hVs
  have hca : c ≠ a := by omega
  have hcr : c ≠ r := by omega
  have har : a ≠ r := by omega
  have hcQ : c < Q := by omega
  have haQ : a < Q := by omega
  have hrQ : r < Q := by omega
  have hwc : w.heap.size ≤ c := by omega
  have hwr : w.heap.size ≤ r := by omega
  have hwQ : w.heap.size ≤ Q := by omega
  clear hVs
  replace hc := hid hc
  replace hr := hid hr
  replace ha := hid ha
  replace hQ := hid hQ
  have hA1' := hA1
  obtain ⟨b0, b1, b2, b3, b4, k0, k1, k2, k3, k4⟩ := hA1'
  have hbx := hid b2
  go_upto_region 5 with fail
  clear b0 b1 b2 b3 b4 k0 k1 k2 k3 k4
  refine region_held_from (w0 := V) (S := fun u => u.cell? ⟨a, 2, none⟩ = some (.slice (some ⟨b, o, none⟩) P.length cP) ∧ u.cell? ⟨b, o + j, none⟩ = some (.int .i64 (nth P j))) (by kernel_rfl) (fun u e => ⟨e.cell hbx.out, hpg.out u (Ext.trans (Ext.trans ‹Ext w0 w› eV) e)⟩) (fun wd ed hHeld0 => ?_)
  refine wpAnyH_take (i := 0) (v := .pointer (some ⟨a, 2, none⟩)) rfl (by kernel_rfl) (by kernel_rfl) (by kernel_rfl) (fun _ _ _ h => h) (Or.inl ⟨by rfl, by intro wx hx; go_simp⟩) (by assumption) ?_
  try simp only [List.getElem_toArray, List.getElem_cons_zero, Act.put, List.setIfInBounds_toArray, List.set_cons_zero, List.set_cons_succ]
  refine wpAnyH_take (i := 1) (v := .slice (some ⟨b, o, none⟩) P.length cP) rfl (by kernel_rfl) (by kernel_rfl) (by kernel_rfl) (fun _ _ _ h => h) (Or.inl ⟨by rfl, by intro wx hx; obtain ⟨_, _⟩ := hx; go_simp⟩) (by assumption) ?_
  try simp only [List.getElem_toArray, List.getElem_cons_succ, List.getElem_cons_zero, Act.put, List.setIfInBounds_toArray, List.set_cons_zero, List.set_cons_succ]
  refine wpAnyH_take (i := 2) (v := .int .i64 j) rfl (by kernel_rfl) (by kernel_rfl) (by kernel_rfl) (fun _ _ _ h => h) (Or.inl ⟨by rfl, by intro wx hx; go_simp⟩) (by assumption) ?_
  try simp only [List.getElem_toArray, List.getElem_cons_succ, List.getElem_cons_zero, Act.put, List.setIfInBounds_toArray, List.set_cons_zero, List.set_cons_succ]
  refine wpAnyH_take (i := 4) (v := .pointer (some ⟨a, 2, none⟩)) rfl (by kernel_rfl) (by kernel_rfl) (by kernel_rfl) (fun _ _ _ h => h) (Or.inl ⟨by rfl, by intro wx hx; go_simp⟩) (by assumption) ?_
  try simp only [List.getElem_toArray, List.getElem_cons_succ, List.getElem_cons_zero, Act.put, List.setIfInBounds_toArray, List.set_cons_zero, List.set_cons_succ]
  refine wpAnyH_take (i := 5) (v := .slice (some ⟨b, o, none⟩) P.length cP) rfl (by kernel_rfl) (by kernel_rfl) (by kernel_rfl) (fun _ _ _ h => h) (Or.inl ⟨by rfl, by intro wx hx; obtain ⟨_, _⟩ := hx; go_simp⟩) (by assumption) ?_
  try simp only [List.getElem_toArray, List.getElem_cons_succ, List.getElem_cons_zero, Act.put, List.setIfInBounds_toArray, List.set_cons_zero, List.set_cons_succ]
  refine wpAnyH_take (i := 6) (v := .int .i64 j) rfl (by kernel_rfl) (by kernel_rfl) (by kernel_rfl) (fun _ _ _ h => h) (Or.inl ⟨by rfl, by intro wx hx; go_simp⟩) (by assumption) ?_
  try simp only [List.getElem_toArray, List.getElem_cons_succ, List.getElem_cons_zero, Act.put, List.setIfInBounds_toArray, List.set_cons_zero, List.set_cons_succ]
  refine wpAnyH_take (i := 7) (v := .pointer (some ⟨b, o + j, none⟩)) rfl (by kernel_rfl) (by kernel_rfl) (by kernel_rfl) (fun _ _ _ h => h) (Or.inl ⟨by rfl, by intro wx hx; go_simp⟩) (by assumption) ?_
  try simp only [List.getElem_toArray, List.getElem_cons_succ, List.getElem_cons_zero, Act.put, List.setIfInBounds_toArray, List.set_cons_zero, List.set_cons_succ]
  refine wpAnyH_take (i := 8) (v := .int .i64 (nth P j)) rfl (by kernel_rfl) (by kernel_rfl) (by kernel_rfl) (fun _ _ _ h => h) (Or.inl ⟨by rfl, by intro wx hx; obtain ⟨_, _⟩ := hx; go_simp⟩) (by assumption) ?_
  try simp only [List.getElem_toArray, List.getElem_cons_succ, List.getElem_cons_zero, Act.put, List.setIfInBounds_toArray, List.set_cons_zero, List.set_cons_succ]
  refine wpAnyH_ready (rs := [3]) (by kernel_rfl) (by simp) ?_
  refine AllReadyH.cons rfl (fun K hK => ?_) AllReadyH.nil
  go_simp
  refine (hWo.out wd (Ext.trans (Ext.trans ‹Ext w0 w› eV) ed)).mono ?_
  rintro e w1 ⟨d1, m1, rfl, own1, e1⟩
  have e1V : Ext V w1 := Ext.trans ed e1
  refine hK.out _ _ ⟨e1V.cell hbx.out, hpg.out _ (Ext.trans (Ext.trans ‹Ext w0 w› eV) e1V)⟩ (fun _ => ?_)
  clear hK K
  try simp only [List.getElem_toArray, List.getElem_cons_succ, List.getElem_cons_zero, Act.put, List.setIfInBounds_toArray, List.set_cons_zero, List.set_cons_succ]
  have sS : Short (P.take j ++ P.drop (j + 1)).length ∧ ∀ y ∈ (P.take j ++ P.drop (j + 1)), I64 y := ⟨by rw [len_wo hj]; have := s.iP.1; unfold Short; omega, fun y hy => s.iP.2.2 y (mem_wo hy)⟩
  have hI1 := own1.reads sS.1 sS.2
  have hll : (P.take j ++ P.drop (j + 1)).length + 1 = P.length := by rw [len_wo hj]; omega
  have hF := hid (@l4Front_any _ (P.take j ++ P.drop (j + 1)) (nth P j) w1 w1 (Ext.refl _) hI1 (by have := s.iP.1; omega))
  rw [List.length_cons, hll] at hF
  refine wpAnyH_ready (rs := [9]) (by kernel_rfl) (by simp) ?_
  refine AllReadyH.cons rfl (fun K hK => ?_) AllReadyH.nil
  go_simp
  refine hF.out.mono ?_
  rintro e w2 ⟨d2, m2, rfl, own2, e2⟩
  have e2V : Ext V w2 := Ext.trans e1V e2
  refine hK.out _ _ ⟨e2V.cell hbx.out, hpg.out _ (Ext.trans (Ext.trans ‹Ext w0 w› eV) e2V)⟩ (fun _ => ?_)
  clear hK K
  try simp only [List.getElem_toArray, List.getElem_cons_succ, List.getElem_cons_zero, Act.put, List.setIfInBounds_toArray, List.set_cons_zero, List.set_cons_succ]
  refine wpAnyH_take (i := 10) (v := .pointer (some ⟨c, 2, none⟩)) rfl (by kernel_rfl) (by kernel_rfl) (by kernel_rfl) (fun _ _ _ h => h) (Or.inl ⟨by rfl, by intro wx hx; go_simp⟩) (by assumption) ?_
  try simp only [List.getElem_toArray, List.getElem_cons_succ, List.getElem_cons_zero, Act.put, List.setIfInBounds_toArray, List.set_cons_zero, List.set_cons_succ]
  have hC2 := hC1.ext e2V
  have hR2 := hR1.ext e2V
  have hC3 := hC2.set2 (.slice d2 P.length m2)
  obtain ⟨b0, b1, b2, b3, b4, k0, k1, k2, k3, k4⟩ := hC2
  have e9 : Ext w (w2.setCell ⟨c, 2, none⟩ (.slice d2 P.length m2)) := @Ext.set _ _ (Ext.trans eV e2V) ⟨c, 2, none⟩ hwc _
  have hA9 := (hA1.ext e2V).other (p := ⟨c, 2, none⟩) hca (.slice d2 P.length m2)
  have hR9 := hR2.other (p := ⟨c, 2, none⟩) hcr (.slice d2 P.length m2)
  have hC9 := hC3
  have hcw1 : c < w1.heap.size := Nat.lt_of_lt_of_le hcQ (by rw [hQ.out]; exact e1V.below.size)
  have hrw1 : r < w1.heap.size := Nat.lt_of_lt_of_le hrQ (by rw [hQ.out]; exact e1V.below.size)
  have own9 := own2.setBelow (p := ⟨c, 2, none⟩) hcw1 (.slice d2 P.length m2)
  clear hA1 hC1 hR1 own1 own2 e1 e2 e1V hI1
  refine wpAnyH_ready (rs := [11]) (by kernel_rfl) (by simp) ?_
  refine AllReadyH.cons rfl (fun K hK => ?_) AllReadyH.nil
  go_simp
  refine hK.out _ _ ⟨hA9.c2, hpg.out _ (Ext.trans ‹Ext w0 w› e9)⟩ (fun _ => ?_)
  clear hK K
  try simp only [List.getElem_toArray, List.getElem_cons_succ, List.getElem_cons_zero, Act.put, List.setIfInBounds_toArray, List.set_cons_zero, List.set_cons_succ]
  refine wpAnyH_done (by kernel_rfl) ?_ _
  clear b0 b1 b2 b3 b4 k0 k1 k2 k3 k4 hR2 hC3 hA9 e2V
  generalize w2.setCell ⟨c, 2, none⟩ (.slice d2 P.length m2) = w9 at *
  obtain ⟨hZ, eZ, oZ⟩ := res_store (v0 := .int .i64 1) (v1 := .int .i64 n) (v2 := .slice d2 P.length m2) (v3 := .slice dM M.length cM) (v4 := .int .i64 k) hR9 e9 hwr
  obtain ⟨b0, b1, b2, b3, b4, k0, k1, k2, k3, k4⟩ := hC9
  obtain ⟨r0, r1, r2, r3, r4, f0, f1, f2, f3, f4⟩ := hR9
  go_wp2_with fail
  refine bodyPost_ret (res_bx1 rfl rfl hZ) rfl ?_
  have s' := s.front (by omega) hj
  have own10 := oZ _ _ hrw1 own9
  exact ⟨nth P j :: (P.take j ++ P.drop (j + 1)), M, k, d2, P.length, m2, dM, M.length, cM, rfl, s', own_rf s' own10 hwr hrw1, RF.of gM hM (Ext.trans ‹Ext w0 w› eZ), eZ⟩
set_option maxHeartbeats 3200000 in
set_option maxRecDepth 100000 in
theorem l4Hit7_any {n k j : Nat} {P M : List Int} {dP dM : Option Addr} {cP cM : Nat} {w0 w : World} [Ext w0 w] (hP : IsInts w0 (.slice dP P.length cP) P) (hM : IsInts w0 (.slice dM M.length cM) M) {G : Nat → Prop} (_gP : GB G (.slice dP P.length cP) P) (gM : GB G (.slice dM M.length cM) M) (s : ST 7 n P M k) (hj : j < P.length) :
    Calls Tryz.prog 82 #[.agg #[.int .i64 7, .int .i64 n, .slice dP P.length cP, .slice dM M.length cM, .int .i64 k], .int .i64 j] w (SPost G 7 n w0 w) := by
  unfold SPost
  have hnP : 0 < P.length := by omega
  obtain ⟨b, o, hd, -⟩ := hP.at (w' := w0) hj
  cases hd
  have hpg := hid (fun (u : World) (e : Ext w0 u) => (show u.cell? ⟨b, o + j, none⟩ = some (.int .i64 (nth P j)) from by
    obtain ⟨b', o', hd, hc⟩ := hP.at (w' := u) hj
    cases hd
    exact hc))
  have hWo := hid (fun (u : World) (e : Ext w0 u) => @l4Without_any _ P j w0 u e hP hj (by have := s.iP.1; omega))
  obtain ⟨W, hW⟩ : ∃ W, W = (w.alloc (.cells #[.int .i64 7, .int .i64 n, .slice (some ⟨b, o, none⟩) P.length cP, .slice dM M.length cM, .int .i64 k] 26)).alloc (.cells #[.int .i64 0, .int .i64 0, .slice none 0 0, .slice none 0 0, .int .i64 0] 26) := ⟨_, rfl⟩
  go_enter Tryz.func82, Tryz.ntmps82
  go_upto_region 1 with fail
  rw [← hW]
  have eW : Ext w W := by rw [hW]; infer_instance
  have hWs : W.heap.size = w.heap.size + 2 := by rw [hW]; go_simp
  have hA : BX W w.heap.size (.int .i64 7) (.int .i64 n) (.slice (some ⟨b, o, none⟩) P.length cP) (.slice dM M.length cM) (.int .i64 k) := by
    rw [hW]
    exact (BX.alloc w 26 (.int .i64 7) (.int .i64 n) (.slice (some ⟨b, o, none⟩) P.length cP) (.slice dM M.length cM) (.int .i64 k)).ext inferInstance
  have hR : BX W (w.heap.size + 1) (.int .i64 0) (.int .i64 0) (.slice none 0 0) (.slice none 0 0) (.int .i64 0) := by
    have h1 := BX.alloc (w.alloc (.cells #[.int .i64 7, .int .i64 n, .slice (some ⟨b, o, none⟩) P.length cP, .slice dM M.length cM, .int .i64 k] 26)) 26 (.int .i64 0) (.int .i64 0) (.slice none 0 0) (.slice none 0 0) (.int .i64 0)
    rw [show (w.alloc (.cells #[.int .i64 7, .int .i64 n, .slice (some ⟨b, o, none⟩) P.length cP, .slice dM M.length cM, .int .i64 k] 26)).heap.size = w.heap.size + 1 by go_simp] at h1
    rw [hW]
    exact h1
  replace hW := hid hW
  obtain ⟨V, hV⟩ : ∃ V, V = W.alloc (.cells #[.int .i64 7, .int .i64 n, .slice (some ⟨b, o, none⟩) P.length cP, .slice dM M.length cM, .int .i64 k] 26) := ⟨_, rfl⟩
  have eWV : Ext W V := by rw [hV]; infer_instance
  have hC1 : BX V (w.heap.size + 2) (.int .i64 7) (.int .i64 n) (.slice (some ⟨b, o, none⟩) P.length cP) (.slice dM M.length cM) (.int .i64 k) := by rw [hV, ← hWs]; exact BX.alloc _ _ _ _ _ _ _
  have hVs : V.heap.size = w.heap.size + 3 := by rw [hV]; go_simp
  have hA1 := hA.ext eWV
  have hR1 := hR.ext eWV
  have eV : Ext w V := Ext.trans eW eWV
  obtain ⟨b0, b1, b2, b3, b4, k0, k1, k2, k3, k4⟩ := hA
  go_upto_region 2 with fail
  rw [← hV]
  replace hV := hid hV
  clear b0 b1 b2 b3 b4 k0 k1 k2 k3 k4 hR hWs eW eWV
  obtain ⟨c, hc⟩ : ∃ c, c = w.heap.size + 2 := ⟨_, rfl⟩
  obtain ⟨r, hr⟩ : ∃ r, r = w.heap.size + 1 := ⟨_, rfl⟩
  obtain ⟨a, ha⟩ : ∃ a, a = w.heap.size := ⟨_, rfl⟩
  obtain ⟨Q, hQ⟩ : ∃ Q, Q = V.heap.size := ⟨_, rfl⟩
  rw [← hc] at hC1 ⊢
  rw [← hr] at hR1 ⊢
  rw [← ha] at hA1 hc hr hVs ⊢
  rw [← hQ] at hVs
  have hca : c ≠ a := by omega
  have hcr : c ≠ r := by omega
  have har : a ≠ r := by omega
  have hcQ : c < Q := by omega
  have haQ : a < Q := by omega
  have hrQ : r < Q := by omega
  have hwc : w.heap.size ≤ c := by omega
  have hwr : w.heap.size ≤ r := by omega
  have hwQ : w.heap.size ≤ Q := by omega
  clear hVs
  replace hc := hid hc
  replace hr := hid hr
  replace ha := hid ha
  replace hQ := hid hQ
  have hA1' := hA1
  obtain ⟨b0, b1, b2, b3, b4, k0, k1, k2, k3, k4⟩ := hA1'
  have hbx := hid b2
  go_upto_region 5 with fail
  clear b0 b1 b2 b3 b4 k0 k1 k2 k3 k4
  refine region_held_from (w0 := V) (S := fun u => u.cell? ⟨a, 2, none⟩ = some (.slice (some ⟨b, o, none⟩) P.length cP) ∧ u.cell? ⟨b, o + j, none⟩ = some (.int .i64 (nth P j))) (by kernel_rfl) (fun u e => ⟨e.cell hbx.out, hpg.out u (Ext.trans (Ext.trans ‹Ext w0 w› eV) e)⟩) (fun wd ed hHeld0 => ?_)
  refine wpAnyH_take (i := 0) (v := .pointer (some ⟨a, 2, none⟩)) rfl (by kernel_rfl) (by kernel_rfl) (by kernel_rfl) (fun _ _ _ h => h) (Or.inl ⟨by rfl, by intro wx hx; go_simp⟩) (by assumption) ?_
  try simp only [List.getElem_toArray, List.getElem_cons_zero, Act.put, List.setIfInBounds_toArray, List.set_cons_zero, List.set_cons_succ]
  refine wpAnyH_take (i := 1) (v := .slice (some ⟨b, o, none⟩) P.length cP) rfl (by kernel_rfl) (by kernel_rfl) (by kernel_rfl) (fun _ _ _ h => h) (Or.inl ⟨by rfl, by intro wx hx; obtain ⟨_, _⟩ := hx; go_simp⟩) (by assumption) ?_
  try simp only [List.getElem_toArray, List.getElem_cons_succ, List.getElem_cons_zero, Act.put, List.setIfInBounds_toArray, List.set_cons_zero, List.set_cons_succ]
  refine wpAnyH_take (i := 2) (v := .int .i64 j) rfl (by kernel_rfl) (by kernel_rfl) (by kernel_rfl) (fun _ _ _ h => h) (Or.inl ⟨by rfl, by intro wx hx; go_simp⟩) (by assumption) ?_
  try simp only [List.getElem_toArray, List.getElem_cons_succ, List.getElem_cons_zero, Act.put, List.setIfInBounds_toArray, List.set_cons_zero, List.set_cons_succ]
  refine wpAnyH_take (i := 4) (v := .pointer (some ⟨a, 2, none⟩)) rfl (by kernel_rfl) (by kernel_rfl) (by kernel_rfl) (fun _ _ _ h => h) (Or.inl ⟨by rfl, by intro wx hx; go_simp⟩) (by assumption) ?_
  try simp only [List.getElem_toArray, List.getElem_cons_succ, List.getElem_cons_zero, Act.put, List.setIfInBounds_toArray, List.set_cons_zero, List.set_cons_succ]
  refine wpAnyH_take (i := 5) (v := .slice (some ⟨b, o, none⟩) P.length cP) rfl (by kernel_rfl) (by kernel_rfl) (by kernel_rfl) (fun _ _ _ h => h) (Or.inl ⟨by rfl, by intro wx hx; obtain ⟨_, _⟩ := hx; go_simp⟩) (by assumption) ?_
  try simp only [List.getElem_toArray, List.getElem_cons_succ, List.getElem_cons_zero, Act.put, List.setIfInBounds_toArray, List.set_cons_zero, List.set_cons_succ]
  refine wpAnyH_take (i := 6) (v := .int .i64 j) rfl (by kernel_rfl) (by kernel_rfl) (by kernel_rfl) (fun _ _ _ h => h) (Or.inl ⟨by rfl, by intro wx hx; go_simp⟩) (by assumption) ?_
  try simp only [List.getElem_toArray, List.getElem_cons_succ, List.getElem_cons_zero, Act.put, List.setIfInBounds_toArray, List.set_cons_zero, List.set_cons_succ]
  refine wpAnyH_take (i := 7) (v := .pointer (some ⟨b, o + j, none⟩)) rfl (by kernel_rfl) (by kernel_rfl) (by kernel_rfl) (fun _ _ _ h => h) (Or.inl ⟨by rfl, by intro wx hx; go_simp⟩) (by assumption) ?_
  try simp only [List.getElem_toArray, List.getElem_cons_succ, List.getElem_cons_zero, Act.put, List.setIfInBounds_toArray, List.set_cons_zero, List.set_cons_succ]
  refine wpAnyH_take (i := 8) (v := .int .i64 (nth P j)) rfl (by kernel_rfl) (by kernel_rfl) (by kernel_rfl) (fun _ _ _ h => h) (Or.inl ⟨by rfl, by intro wx hx; obtain ⟨_, _⟩ := hx; go_simp⟩) (by assumption) ?_
  try simp only [List.getElem_toArray, List.getElem_cons_succ, List.getElem_cons_zero, Act.put, List.setIfInBounds_toArray, List.set_cons_zero, List.set_cons_succ]
  refine wpAnyH_ready (rs := [3]) (by kernel_rfl) (by simp) ?_
  refine AllReadyH.cons rfl (fun K hK => ?_) AllReadyH.nil
  go_simp
  refine (hWo.out wd (Ext.trans (Ext.trans ‹Ext w0 w› eV) ed)).mono ?_
  rintro e w1 ⟨d1, m1, rfl, own1, e1⟩
  have e1V : Ext V w1 := Ext.trans ed e1
  refine hK.out _ _ ⟨e1V.cell hbx.out, hpg.out _ (Ext.trans (Ext.trans ‹Ext w0 w› eV) e1V)⟩ (fun _ => ?_)
  clear hK K
  try simp only [List.getElem_toArray, List.getElem_cons_succ, List.getElem_cons_zero, Act.put, List.setIfInBounds_toArray, List.set_cons_zero, List.set_cons_succ]
  have sS : Short (P.take j ++ P.drop (j + 1)).length ∧ ∀ y ∈ (P.take j ++ P.drop (j + 1)), I64 y := ⟨by rw [len_wo hj]; have := s.iP.1; unfold Short; omega, fun y hy => s.iP.2.2 y (mem_wo hy)⟩
  have hI1 := own1.reads sS.1 sS.2
  have hll : (P.take j ++ P.drop (j + 1)).length + 1 = P.length := by rw [len_wo hj]; omega
  have hF := hid (@l4Front_any _ (P.take j ++ P.drop (j + 1)) (nth P j) w1 w1 (Ext.refl _) hI1 (by have := s.iP.1; omega))
  rw [List.length_cons, hll] at hF
  refine wpAnyH_ready (rs := [9]) (by kernel_rfl) (by simp) ?_
  refine AllReadyH.cons rfl (fun K hK => ?_) AllReadyH.nil
  go_simp
  refine hF.out.mono ?_
  rintro e w2 ⟨d2, m2, rfl, own2, e2⟩
  have e2V : Ext V w2 := Ext.trans e1V e2
  refine hK.out _ _ ⟨e2V.cell hbx.out, hpg.out _ (Ext.trans (Ext.trans ‹Ext w0 w› eV) e2V)⟩ (fun _ => ?_)
  clear hK K
  try simp only [List.getElem_toArray, List.getElem_cons_succ, List.getElem_cons_zero, Act.put, List.setIfInBounds_toArray, List.set_cons_zero, List.set_cons_succ]
  refine wpAnyH_take (i := 10) (v := .pointer (some ⟨c, 2, none⟩)) rfl (by kernel_rfl) (by kernel_rfl) (by kernel_rfl) (fun _ _ _ h => h) (Or.inl ⟨by rfl, by intro wx hx; go_simp⟩) (by assumption) ?_
  try simp only [List.getElem_toArray, List.getElem_cons_succ, List.getElem_cons_zero, Act.put, List.setIfInBounds_toArray, List.set_cons_zero, List.set_cons_succ]
  have hC2 := hC1.ext e2V
  have hR2 := hR1.ext e2V
  have hC3 := hC2.set2 (.slice d2 P.length m2)
  obtain ⟨b0, b1, b2, b3, b4, k0, k1, k2, k3, k4⟩ := hC2
  have e9 : Ext w (w2.setCell ⟨c, 2, none⟩ (.slice d2 P.length m2)) := @Ext.set _ _ (Ext.trans eV e2V) ⟨c, 2, none⟩ hwc _
  have hA9 := (hA1.ext e2V).other (p := ⟨c, 2, none⟩) hca (.slice d2 P.length m2)
  have hR9 := hR2.other (p := ⟨c, 2, none⟩) hcr (.slice d2 P.length m2)
  have hC9 := hC3
  have hcw1 : c < w1.heap.size := Nat.lt_of_lt_of_le hcQ (by rw [hQ.out]; exact e1V.below.size)
  have hrw1 : r < w1.heap.size := Nat.lt_of_lt_of_le hrQ (by rw [hQ.out]; exact e1V.below.size)
  have own9 := own2.setBelow (p := ⟨c, 2, none⟩) hcw1 (.slice d2 P.length m2)
  clear hA1 hC1 hR1 own1 own2 e1 e2 e1V hI1
  refine wpAnyH_ready (rs := [11]) (by kernel_rfl) (by simp) ?_
  refine AllReadyH.cons rfl (fun K hK => ?_) AllReadyH.nil
  go_simp
  refine hK.out _ _ ⟨hA9.c2, hpg.out _ (Ext.trans ‹Ext w0 w› e9)⟩ (fun _ => ?_)
  clear hK K
  try simp only [List.getElem_toArray, List.getElem_cons_succ, List.getElem_cons_zero, Act.put, List.setIfInBounds_toArray, List.set_cons_zero, List.set_cons_succ]
  refine wpAnyH_done (by kernel_rfl) ?_ _
  clear b0 b1 b2 b3 b4 k0 k1 k2 k3 k4 hR2 hC3 hA9 e2V
  generalize w2.setCell ⟨c, 2, none⟩ (.slice d2 P.length m2) = w9 at *
  obtain ⟨hZ, eZ, oZ⟩ := res_store (v0 := .int .i64 7) (v1 := .int .i64 n) (v2 := .slice d2 P.length m2) (v3 := .slice dM M.length cM) (v4 := .int .i64 k) hR9 e9 hwr
  obtain ⟨b0, b1, b2, b3, b4, k0, k1, k2, k3, k4⟩ := hC9
  obtain ⟨r0, r1, r2, r3, r4, f0, f1, f2, f3, f4⟩ := hR9
  go_wp2_with fail
  refine bodyPost_ret (res_bx1 rfl rfl hZ) rfl ?_
  have s' := s.front (by omega) hj
  have own10 := oZ _ _ hrw1 own9
  exact ⟨nth P j :: (P.take j ++ P.drop (j + 1)), M, k, d2, P.length, m2, dM, M.length, cM, rfl, s', own_rf s' own10 hwr hrw1, RF.of gM hM (Ext.trans ‹Ext w0 w› eZ), eZ⟩
set_option maxHeartbeats 3200000 in
set_option maxRecDepth 100000 in
theorem l4Hit2_any {n k j : Nat} {P M : List Int} {dP dM : Option Addr} {cP cM : Nat} {w0 w : World} [Ext w0 w] (hP : IsInts w0 (.slice dP P.length cP) P) (hM : IsInts w0 (.slice dM M.length cM) M) {G : Nat → Prop} (gP : GB G (.slice dP P.length cP) P) (gM : GB G (.slice dM M.length cM) M) (s : ST 2 n P M k) (_hj : j < P.length) :
    Calls Tryz.prog 82 #[.agg #[.int .i64 2, .int .i64 n, .slice dP P.length cP, .slice dM M.length cM, .int .i64 k], .int .i64 j] w (SPost G 2 n w0 w) := by
  unfold SPost
  obtain ⟨W, hW⟩ : ∃ W, W = (w.alloc (.cells #[.int .i64 2, .int .i64 n, .slice dP P.length cP, .slice dM M.length cM, .int .i64 k] 26)).alloc (.cells #[.int .i64 0, .int .i64 0, .slice none 0 0, .slice none 0 0, .int .i64 0] 26) := ⟨_, rfl⟩
  go_enter Tryz.func82, Tryz.ntmps82
  go_upto_region 1 with fail
  rw [← hW]
  have eW : Ext w W := by rw [hW]; infer_instance
  have hWs : W.heap.size = w.heap.size + 2 := by rw [hW]; go_simp
  have hA : BX W w.heap.size (.int .i64 2) (.int .i64 n) (.slice dP P.length cP) (.slice dM M.length cM) (.int .i64 k) := by
    rw [hW]
    exact (BX.alloc w 26 (.int .i64 2) (.int .i64 n) (.slice dP P.length cP) (.slice dM M.length cM) (.int .i64 k)).ext inferInstance
  have hR : BX W (w.heap.size + 1) (.int .i64 0) (.int .i64 0) (.slice none 0 0) (.slice none 0 0) (.int .i64 0) := by
    have h1 := BX.alloc (w.alloc (.cells #[.int .i64 2, .int .i64 n, .slice dP P.length cP, .slice dM M.length cM, .int .i64 k] 26)) 26 (.int .i64 0) (.int .i64 0) (.slice none 0 0) (.slice none 0 0) (.int .i64 0)
    rw [show (w.alloc (.cells #[.int .i64 2, .int .i64 n, .slice dP P.length cP, .slice dM M.length cM, .int .i64 k] 26)).heap.size = w.heap.size + 1 by go_simp] at h1
    rw [hW]
    exact h1
  replace hW := hid hW
  obtain ⟨V, hV⟩ : ∃ V, V = W.alloc (.cells #[.int .i64 2, .int .i64 n, .slice dP P.length cP, .slice dM M.length cM, .int .i64 k] 26) := ⟨_, rfl⟩
  have eWV : Ext W V := by rw [hV]; infer_instance
  have hC1 : BX V (w.heap.size + 2) (.int .i64 2) (.int .i64 n) (.slice dP P.length cP) (.slice dM M.length cM) (.int .i64 k) := by rw [hV, ← hWs]; exact BX.alloc _ _ _ _ _ _ _
  have hVs : V.heap.size = w.heap.size + 3 := by rw [hV]; go_simp
  have hA1 := hA.ext eWV
  have hR1 := hR.ext eWV
  have eV : Ext w V := Ext.trans eW eWV
  obtain ⟨b0, b1, b2, b3, b4, k0, k1, k2, k3, k4⟩ := hA
  go_upto_region 2 with fail
  rw [← hV]
  replace hV := hid hV
  clear b0 b1 b2 b3 b4 k0 k1 k2 k3 k4 hR hWs eW eWV
  obtain ⟨c, hc⟩ : ∃ c, c = w.heap.size + 2 := ⟨_, rfl⟩
  obtain ⟨r, hr⟩ : ∃ r, r = w.heap.size + 1 := ⟨_, rfl⟩
  obtain ⟨a, ha⟩ : ∃ a, a = w.heap.size := ⟨_, rfl⟩
  obtain ⟨Q, hQ⟩ : ∃ Q, Q = V.heap.size := ⟨_, rfl⟩
  rw [← hc] at hC1 ⊢
  rw [← hr] at hR1 ⊢
  rw [← ha] at hA1 hc hr hVs ⊢
  rw [← hQ] at hVs
  have hca : c ≠ a := by omega
  have hcr : c ≠ r := by omega
  have har : a ≠ r := by omega
  have hcQ : c < Q := by omega
  have haQ : a < Q := by omega
  have hrQ : r < Q := by omega
  have hwc : w.heap.size ≤ c := by omega
  have hwr : w.heap.size ≤ r := by omega
  have hwQ : w.heap.size ≤ Q := by omega
  clear hVs
  replace hc := hid hc
  replace hr := hid hr
  replace ha := hid ha
  replace hQ := hid hQ
  have hA1' := hA1
  obtain ⟨b0, b1, b2, b3, b4, k0, k1, k2, k3, k4⟩ := hA1'
  clear b0 b1 b2 b3 b4 k0 k1 k2 k3 k4
  have hA1' := hA1
  obtain ⟨b0, b1, b2, b3, b4, k0, k1, k2, k3, k4⟩ := hA1'
  go_upto_region 10 with fail
  clear b0 b1 b2 b3 b4 k0 k1 k2 k3 k4
  have hC9 := hC1
  have hR9 := hR1
  have e9 := eV
  obtain ⟨hZ, eZ, oZ⟩ := res_store (v0 := .int .i64 2) (v1 := .int .i64 n) (v2 := .slice dP P.length cP) (v3 := .slice dM M.length cM) (v4 := .int .i64 k) hR9 e9 hwr
  obtain ⟨b0, b1, b2, b3, b4, k0, k1, k2, k3, k4⟩ := hC9
  obtain ⟨r0, r1, r2, r3, r4, f0, f1, f2, f3, f4⟩ := hR9
  go_wp2_with fail
  refine bodyPost_ret (res_bx1 rfl rfl hZ) rfl ?_
  exact ⟨P, M, k, dP, P.length, cP, dM, M.length, cM, rfl, s, RF.of gP hP (Ext.trans ‹Ext w0 w› eZ), RF.of gM hM (Ext.trans ‹Ext w0 w› eZ), eZ⟩
set_option maxHeartbeats 3200000 in
set_option maxRecDepth 100000 in
theorem l4Hit3_any {n k j : Nat} {P M : List Int} {dP dM : Option Addr} {cP cM : Nat} {w0 w : World} [Ext w0 w] (hP : IsInts w0 (.slice dP P.length cP) P) (hM : IsInts w0 (.slice dM M.length cM) M) {G : Nat → Prop} (gP : GB G (.slice dP P.length cP) P) (gM : GB G (.slice dM M.length cM) M) (s : ST 3 n P M k) (_hj : j < P.length) :
    Calls Tryz.prog 82 #[.agg #[.int .i64 3, .int .i64 n, .slice dP P.length cP, .slice dM M.length cM, .int .i64 k], .int .i64 j] w (SPost G 3 n w0 w) := by
  unfold SPost
  obtain ⟨W, hW⟩ : ∃ W, W = (w.alloc (.cells #[.int .i64 3, .int .i64 n, .slice dP P.length cP, .slice dM M.length cM, .int .i64 k] 26)).alloc (.cells #[.int .i64 0, .int .i64 0, .slice none 0 0, .slice none 0 0, .int .i64 0] 26) := ⟨_, rfl⟩
  go_enter Tryz.func82, Tryz.ntmps82
  go_upto_region 1 with fail
  rw [← hW]
  have eW : Ext w W := by rw [hW]; infer_instance
  have hWs : W.heap.size = w.heap.size + 2 := by rw [hW]; go_simp
  have hA : BX W w.heap.size (.int .i64 3) (.int .i64 n) (.slice dP P.length cP) (.slice dM M.length cM) (.int .i64 k) := by
    rw [hW]
    exact (BX.alloc w 26 (.int .i64 3) (.int .i64 n) (.slice dP P.length cP) (.slice dM M.length cM) (.int .i64 k)).ext inferInstance
  have hR : BX W (w.heap.size + 1) (.int .i64 0) (.int .i64 0) (.slice none 0 0) (.slice none 0 0) (.int .i64 0) := by
    have h1 := BX.alloc (w.alloc (.cells #[.int .i64 3, .int .i64 n, .slice dP P.length cP, .slice dM M.length cM, .int .i64 k] 26)) 26 (.int .i64 0) (.int .i64 0) (.slice none 0 0) (.slice none 0 0) (.int .i64 0)
    rw [show (w.alloc (.cells #[.int .i64 3, .int .i64 n, .slice dP P.length cP, .slice dM M.length cM, .int .i64 k] 26)).heap.size = w.heap.size + 1 by go_simp] at h1
    rw [hW]
    exact h1
  replace hW := hid hW
  obtain ⟨V, hV⟩ : ∃ V, V = W.alloc (.cells #[.int .i64 3, .int .i64 n, .slice dP P.length cP, .slice dM M.length cM, .int .i64 k] 26) := ⟨_, rfl⟩
  have eWV : Ext W V := by rw [hV]; infer_instance
  have hC1 : BX V (w.heap.size + 2) (.int .i64 3) (.int .i64 n) (.slice dP P.length cP) (.slice dM M.length cM) (.int .i64 k) := by rw [hV, ← hWs]; exact BX.alloc _ _ _ _ _ _ _
  have hVs : V.heap.size = w.heap.size + 3 := by rw [hV]; go_simp
  have hA1 := hA.ext eWV
  have hR1 := hR.ext eWV
  have eV : Ext w V := Ext.trans eW eWV
  obtain ⟨b0, b1, b2, b3, b4, k0, k1, k2, k3, k4⟩ := hA
  go_upto_region 2 with fail
  rw [← hV]
  replace hV := hid hV
  clear b0 b1 b2 b3 b4 k0 k1 k2 k3 k4 hR hWs eW eWV
  obtain ⟨c, hc⟩ : ∃ c, c = w.heap.size + 2 := ⟨_, rfl⟩
  obtain ⟨r, hr⟩ : ∃ r, r = w.heap.size + 1 := ⟨_, rfl⟩
  obtain ⟨a, ha⟩ : ∃ a, a = w.heap.size := ⟨_, rfl⟩
  obtain ⟨Q, hQ⟩ : ∃ Q, Q = V.heap.size := ⟨_, rfl⟩
  rw [← hc] at hC1 ⊢
  rw [← hr] at hR1 ⊢
  rw [← ha] at hA1 hc hr hVs ⊢
  rw [← hQ] at hVs
  have hca : c ≠ a := by omega
  have hcr : c ≠ r := by omega
  have har : a ≠ r := by omega
  have hcQ : c < Q := by omega
  have haQ : a < Q := by omega
  have hrQ : r < Q := by omega
  have hwc : w.heap.size ≤ c := by omega
  have hwr : w.heap.size ≤ r := by omega
  have hwQ : w.heap.size ≤ Q := by omega
  clear hVs
  replace hc := hid hc
  replace hr := hid hr
  replace ha := hid ha
  replace hQ := hid hQ
  have hA1' := hA1
  obtain ⟨b0, b1, b2, b3, b4, k0, k1, k2, k3, k4⟩ := hA1'
  clear b0 b1 b2 b3 b4 k0 k1 k2 k3 k4
  have hA1' := hA1
  obtain ⟨b0, b1, b2, b3, b4, k0, k1, k2, k3, k4⟩ := hA1'
  go_upto_region 10 with fail
  clear b0 b1 b2 b3 b4 k0 k1 k2 k3 k4
  have hC9 := hC1
  have hR9 := hR1
  have e9 := eV
  obtain ⟨hZ, eZ, oZ⟩ := res_store (v0 := .int .i64 3) (v1 := .int .i64 n) (v2 := .slice dP P.length cP) (v3 := .slice dM M.length cM) (v4 := .int .i64 k) hR9 e9 hwr
  obtain ⟨b0, b1, b2, b3, b4, k0, k1, k2, k3, k4⟩ := hC9
  obtain ⟨r0, r1, r2, r3, r4, f0, f1, f2, f3, f4⟩ := hR9
  go_wp2_with fail
  refine bodyPost_ret (res_bx1 rfl rfl hZ) rfl ?_
  exact ⟨P, M, k, dP, P.length, cP, dM, M.length, cM, rfl, s, RF.of gP hP (Ext.trans ‹Ext w0 w› eZ), RF.of gM hM (Ext.trans ‹Ext w0 w› eZ), eZ⟩
set_option maxHeartbeats 3200000 in
set_option maxRecDepth 100000 in
theorem l4Hit4_any {n k j : Nat} {P M : List Int} {dP dM : Option Addr} {cP cM : Nat} {w0 w : World} [Ext w0 w] (hP : IsInts w0 (.slice dP P.length cP) P) (hM : IsInts w0 (.slice dM M.length cM) M) {G : Nat → Prop} (gP : GB G (.slice dP P.length cP) P) (gM : GB G (.slice dM M.length cM) M) (s : ST 4 n P M k) (_hj : j < P.length) :
    Calls Tryz.prog 82 #[.agg #[.int .i64 4, .int .i64 n, .slice dP P.length cP, .slice dM M.length cM, .int .i64 k], .int .i64 j] w (SPost G 4 n w0 w) := by
  unfold SPost
  obtain ⟨W, hW⟩ : ∃ W, W = (w.alloc (.cells #[.int .i64 4, .int .i64 n, .slice dP P.length cP, .slice dM M.length cM, .int .i64 k] 26)).alloc (.cells #[.int .i64 0, .int .i64 0, .slice none 0 0, .slice none 0 0, .int .i64 0] 26) := ⟨_, rfl⟩
  go_enter Tryz.func82, Tryz.ntmps82
  go_upto_region 1 with fail
  rw [← hW]
  have eW : Ext w W := by rw [hW]; infer_instance
  have hWs : W.heap.size = w.heap.size + 2 := by rw [hW]; go_simp
  have hA : BX W w.heap.size (.int .i64 4) (.int .i64 n) (.slice dP P.length cP) (.slice dM M.length cM) (.int .i64 k) := by
    rw [hW]
    exact (BX.alloc w 26 (.int .i64 4) (.int .i64 n) (.slice dP P.length cP) (.slice dM M.length cM) (.int .i64 k)).ext inferInstance
  have hR : BX W (w.heap.size + 1) (.int .i64 0) (.int .i64 0) (.slice none 0 0) (.slice none 0 0) (.int .i64 0) := by
    have h1 := BX.alloc (w.alloc (.cells #[.int .i64 4, .int .i64 n, .slice dP P.length cP, .slice dM M.length cM, .int .i64 k] 26)) 26 (.int .i64 0) (.int .i64 0) (.slice none 0 0) (.slice none 0 0) (.int .i64 0)
    rw [show (w.alloc (.cells #[.int .i64 4, .int .i64 n, .slice dP P.length cP, .slice dM M.length cM, .int .i64 k] 26)).heap.size = w.heap.size + 1 by go_simp] at h1
    rw [hW]
    exact h1
  replace hW := hid hW
  obtain ⟨V, hV⟩ : ∃ V, V = W.alloc (.cells #[.int .i64 4, .int .i64 n, .slice dP P.length cP, .slice dM M.length cM, .int .i64 k] 26) := ⟨_, rfl⟩
  have eWV : Ext W V := by rw [hV]; infer_instance
  have hC1 : BX V (w.heap.size + 2) (.int .i64 4) (.int .i64 n) (.slice dP P.length cP) (.slice dM M.length cM) (.int .i64 k) := by rw [hV, ← hWs]; exact BX.alloc _ _ _ _ _ _ _
  have hVs : V.heap.size = w.heap.size + 3 := by rw [hV]; go_simp
  have hA1 := hA.ext eWV
  have hR1 := hR.ext eWV
  have eV : Ext w V := Ext.trans eW eWV
  obtain ⟨b0, b1, b2, b3, b4, k0, k1, k2, k3, k4⟩ := hA
  go_upto_region 2 with fail
  rw [← hV]
  replace hV := hid hV
  clear b0 b1 b2 b3 b4 k0 k1 k2 k3 k4 hR hWs eW eWV
  obtain ⟨c, hc⟩ : ∃ c, c = w.heap.size + 2 := ⟨_, rfl⟩
  obtain ⟨r, hr⟩ : ∃ r, r = w.heap.size + 1 := ⟨_, rfl⟩
  obtain ⟨a, ha⟩ : ∃ a, a = w.heap.size := ⟨_, rfl⟩
  obtain ⟨Q, hQ⟩ : ∃ Q, Q = V.heap.size := ⟨_, rfl⟩
  rw [← hc] at hC1 ⊢
  rw [← hr] at hR1 ⊢
  rw [← ha] at hA1 hc hr hVs ⊢
  rw [← hQ] at hVs
  have hca : c ≠ a := by omega
  have hcr : c ≠ r := by omega
  have har : a ≠ r := by omega
  have hcQ : c < Q := by omega
  have haQ : a < Q := by omega
  have hrQ : r < Q := by omega
  have hwc : w.heap.size ≤ c := by omega
  have hwr : w.heap.size ≤ r := by omega
  have hwQ : w.heap.size ≤ Q := by omega
  clear hVs
  replace hc := hid hc
  replace hr := hid hr
  replace ha := hid ha
  replace hQ := hid hQ
  have hA1' := hA1
  obtain ⟨b0, b1, b2, b3, b4, k0, k1, k2, k3, k4⟩ := hA1'
  clear b0 b1 b2 b3 b4 k0 k1 k2 k3 k4
  have hA1' := hA1
  obtain ⟨b0, b1, b2, b3, b4, k0, k1, k2, k3, k4⟩ := hA1'
  go_upto_region 10 with fail
  clear b0 b1 b2 b3 b4 k0 k1 k2 k3 k4
  have hC9 := hC1
  have hR9 := hR1
  have e9 := eV
  obtain ⟨hZ, eZ, oZ⟩ := res_store (v0 := .int .i64 4) (v1 := .int .i64 n) (v2 := .slice dP P.length cP) (v3 := .slice dM M.length cM) (v4 := .int .i64 k) hR9 e9 hwr
  obtain ⟨b0, b1, b2, b3, b4, k0, k1, k2, k3, k4⟩ := hC9
  obtain ⟨r0, r1, r2, r3, r4, f0, f1, f2, f3, f4⟩ := hR9
  go_wp2_with fail
  refine bodyPost_ret (res_bx1 rfl rfl hZ) rfl ?_
  exact ⟨P, M, k, dP, P.length, cP, dM, M.length, cM, rfl, s, RF.of gP hP (Ext.trans ‹Ext w0 w› eZ), RF.of gM hM (Ext.trans ‹Ext w0 w› eZ), eZ⟩
set_option maxHeartbeats 3200000 in
set_option maxRecDepth 100000 in
theorem l4Hit6_any {n k j : Nat} {P M : List Int} {dP dM : Option Addr} {cP cM : Nat} {w0 w : World} [Ext w0 w] (hP : IsInts w0 (.slice dP P.length cP) P) (hM : IsInts w0 (.slice dM M.length cM) M) {G : Nat → Prop} (gP : GB G (.slice dP P.length cP) P) (_gM : GB G (.slice dM M.length cM) M) (s : ST 6 n P M k) (hj : j < P.length) :
    Calls Tryz.prog 82 #[.agg #[.int .i64 6, .int .i64 n, .slice dP P.length cP, .slice dM M.length cM, .int .i64 k], .int .i64 j] w (SPost G 6 n w0 w) := by
  unfold SPost
  have hml := s.mks (.inr rfl)
  have hjM : j < M.length := by omega
  have hWt := hid (fun (u : World) (e : Ext w0 u) => @l4With_any _ M j 1 w0 u e hM hjM)
  replace hml := hid hml
  obtain ⟨W, hW⟩ : ∃ W, W = (w.alloc (.cells #[.int .i64 6, .int .i64 n, .slice dP P.length cP, .slice dM M.length cM, .int .i64 k] 26)).alloc (.cells #[.int .i64 0, .int .i64 0, .slice none 0 0, .slice none 0 0, .int .i64 0] 26) := ⟨_, rfl⟩
  go_enter Tryz.func82, Tryz.ntmps82
  go_upto_region 1 with fail
  rw [← hW]
  have eW : Ext w W := by rw [hW]; infer_instance
  have hWs : W.heap.size = w.heap.size + 2 := by rw [hW]; go_simp
  have hA : BX W w.heap.size (.int .i64 6) (.int .i64 n) (.slice dP P.length cP) (.slice dM M.length cM) (.int .i64 k) := by
    rw [hW]
    exact (BX.alloc w 26 (.int .i64 6) (.int .i64 n) (.slice dP P.length cP) (.slice dM M.length cM) (.int .i64 k)).ext inferInstance
  have hR : BX W (w.heap.size + 1) (.int .i64 0) (.int .i64 0) (.slice none 0 0) (.slice none 0 0) (.int .i64 0) := by
    have h1 := BX.alloc (w.alloc (.cells #[.int .i64 6, .int .i64 n, .slice dP P.length cP, .slice dM M.length cM, .int .i64 k] 26)) 26 (.int .i64 0) (.int .i64 0) (.slice none 0 0) (.slice none 0 0) (.int .i64 0)
    rw [show (w.alloc (.cells #[.int .i64 6, .int .i64 n, .slice dP P.length cP, .slice dM M.length cM, .int .i64 k] 26)).heap.size = w.heap.size + 1 by go_simp] at h1
    rw [hW]
    exact h1
  replace hW := hid hW
  obtain ⟨V, hV⟩ : ∃ V, V = W.alloc (.cells #[.int .i64 6, .int .i64 n, .slice dP P.length cP, .slice dM M.length cM, .int .i64 k] 26) := ⟨_, rfl⟩
  have eWV : Ext W V := by rw [hV]; infer_instance
  have hC1 : BX V (w.heap.size + 2) (.int .i64 6) (.int .i64 n) (.slice dP P.length cP) (.slice dM M.length cM) (.int .i64 k) := by rw [hV, ← hWs]; exact BX.alloc _ _ _ _ _ _ _
  have hVs : V.heap.size = w.heap.size + 3 := by rw [hV]; go_simp
  have hA1 := hA.ext eWV
  have hR1 := hR.ext eWV
  have eV : Ext w V := Ext.trans eW eWV
  obtain ⟨b0, b1, b2, b3, b4, k0, k1, k2, k3, k4⟩ := hA
  go_upto_region 2 with fail
  rw [← hV]
  replace hV := hid hV
  clear b0 b1 b2 b3 b4 k0 k1 k2 k3 k4 hR hWs eW eWV
  obtain ⟨c, hc⟩ : ∃ c, c = w.heap.size + 2 := ⟨_, rfl⟩
  obtain ⟨r, hr⟩ : ∃ r, r = w.heap.size + 1 := ⟨_, rfl⟩
  obtain ⟨a, ha⟩ : ∃ a, a = w.heap.size := ⟨_, rfl⟩
  obtain ⟨Q, hQ⟩ : ∃ Q, Q = V.heap.size := ⟨_, rfl⟩
  rw [← hc] at hC1 ⊢
  rw [← hr] at hR1 ⊢
  rw [← ha] at hA1 hc hr hVs ⊢
  rw [← hQ] at hVs
  have hca : c ≠ a := by omega
  have hcr : c ≠ r := by omega
  have har : a ≠ r := by omega
  have hcQ : c < Q := by omega
  have haQ : a < Q := by omega
  have hrQ : r < Q := by omega
  have hwc : w.heap.size ≤ c := by omega
  have hwr : w.heap.size ≤ r := by omega
  have hwQ : w.heap.size ≤ Q := by omega
  clear hVs
  replace hc := hid hc
  replace hr := hid hr
  replace ha := hid ha
  replace hQ := hid hQ
  have hA1' := hA1
  obtain ⟨b0, b1, b2, b3, b4, k0, k1, k2, k3, k4⟩ := hA1'
  go_wp2_with fail
  refine (hWt.out V (Ext.trans ‹Ext w0 w› eV)).mono ?_
  rintro e w1 ⟨d1, m1, rfl, own1, e1⟩
  have hC2 := hC1.ext e1
  have hR2 := hR1.ext e1
  have hC3 := hC2.set3 (.slice d1 M.length m1)
  have hR9 := hR2.other (p := ⟨c, 3, none⟩) hcr (.slice d1 M.length m1)
  have hcV : c < V.heap.size := by rw [← hQ.out]; exact hcQ
  have hrV : r < V.heap.size := by rw [← hQ.out]; exact hrQ
  have own9 := own1.setBelow (p := ⟨c, 3, none⟩) hcV (.slice d1 M.length m1)
  have e9 : Ext w (w1.setCell ⟨c, 3, none⟩ (.slice d1 M.length m1)) := @Ext.set _ _ (Ext.trans eV e1) ⟨c, 3, none⟩ hwc _
  have hC9 := hC3
  clear b0 b1 b2 b3 b4 k0 k1 k2 k3 k4 hC1 hA1 hR1 own1 hC3 hR2
  obtain ⟨b0, b1, b2, b3, b4, k0, k1, k2, k3, k4⟩ := hC2
  go_upto_region 10 with fail
  clear b0 b1 b2 b3 b4 k0 k1 k2 k3 k4 e1
  generalize w1.setCell ⟨c, 3, none⟩ (.slice d1 M.length m1) = w9 at *
  obtain ⟨hZ, eZ, oZ⟩ := res_store (v0 := .int .i64 6) (v1 := .int .i64 n) (v2 := .slice dP P.length cP) (v3 := .slice d1 M.length m1) (v4 := .int .i64 k) hR9 e9 hwr
  obtain ⟨b0, b1, b2, b3, b4, k0, k1, k2, k3, k4⟩ := hC9
  obtain ⟨r0, r1, r2, r3, r4, f0, f1, f2, f3, f4⟩ := hR9
  go_wp2_with fail
  refine bodyPost_ret (res_bx1 rfl rfl hZ) rfl ?_
  have s' := s.mark (.inr rfl) (v := 1) j (by omega) (fun _ => Int.le_refl _)
  have own10 := oZ _ _ hrV own9
  exact ⟨P, M.set j 1, k, dP, P.length, cP, d1, M.length, m1, rfl, s', RF.of gP hP (Ext.trans ‹Ext w0 w› eZ), own_rfM s' own10 hwr hrV, eZ⟩
set_option maxHeartbeats 3200000 in
set_option maxRecDepth 100000 in
theorem l4Hit5_any {n k j : Nat} {P M : List Int} {dP dM : Option Addr} {cP cM : Nat} {w0 w : World} [Ext w0 w] (hP : IsInts w0 (.slice dP P.length cP) P) (hM : IsInts w0 (.slice dM M.length cM) M) {G : Nat → Prop} (gP : GB G (.slice dP P.length cP) P) (_gM : GB G (.slice dM M.length cM) M) (s : ST 5 n P M k) (hj : j < P.length) :
    Calls Tryz.prog 82 #[.agg #[.int .i64 5, .int .i64 n, .slice dP P.length cP, .slice dM M.length cM, .int .i64 k], .int .i64 j] w (SPost G 5 n w0 w) := by
  unfold SPost
  have hml := s.mks (.inl rfl)
  have hjM : j < M.length := by omega
  obtain ⟨b, o, hd, -⟩ := hM.at (w' := w0) hjM
  cases hd
  have hpg := hid (fun (u : World) (e : Ext w0 u) => (show u.cell? ⟨b, o + j, none⟩ = some (.int .i64 (nth M j)) from by
    obtain ⟨b', o', hd, hc⟩ := hM.at (w' := u) hjM
    cases hd
    exact hc))
  have hv := s.mv _ (nth_in hjM)
  obtain ⟨y, hy⟩ : ∃ y, y = nth M j := ⟨_, rfl⟩
  rw [← hy] at hv hpg
  obtain ⟨v, hvv⟩ : ∃ v : Int, v = if y + 1 < 60 then y + 1 else 60 := ⟨_, rfl⟩
  have hvb : 0 ≤ v ∧ v ≤ 61 := by
    rw [hvv]
    split <;> omega
  have hWt := hid (fun (u : World) (e : Ext w0 u) => @l4With_any _ M j v w0 u e hM hjM)
  have hLt := hid (fun (u : World) => l1LeastZ_any (y + 1) 60 u)
  rw [← hvv] at hLt
  replace hml := hid hml
  replace hvv := hid hvv
  replace hy := hid hy
  obtain ⟨W, hW⟩ : ∃ W, W = (w.alloc (.cells #[.int .i64 5, .int .i64 n, .slice dP P.length cP, .slice (some ⟨b, o, none⟩) M.length cM, .int .i64 k] 26)).alloc (.cells #[.int .i64 0, .int .i64 0, .slice none 0 0, .slice none 0 0, .int .i64 0] 26) := ⟨_, rfl⟩
  go_enter Tryz.func82, Tryz.ntmps82
  go_upto_region 1 with fail
  rw [← hW]
  have eW : Ext w W := by rw [hW]; infer_instance
  have hWs : W.heap.size = w.heap.size + 2 := by rw [hW]; go_simp
  have hA : BX W w.heap.size (.int .i64 5) (.int .i64 n) (.slice dP P.length cP) (.slice (some ⟨b, o, none⟩) M.length cM) (.int .i64 k) := by
    rw [hW]
    exact (BX.alloc w 26 (.int .i64 5) (.int .i64 n) (.slice dP P.length cP) (.slice (some ⟨b, o, none⟩) M.length cM) (.int .i64 k)).ext inferInstance
  have hR : BX W (w.heap.size + 1) (.int .i64 0) (.int .i64 0) (.slice none 0 0) (.slice none 0 0) (.int .i64 0) := by
    have h1 := BX.alloc (w.alloc (.cells #[.int .i64 5, .int .i64 n, .slice dP P.length cP, .slice (some ⟨b, o, none⟩) M.length cM, .int .i64 k] 26)) 26 (.int .i64 0) (.int .i64 0) (.slice none 0 0) (.slice none 0 0) (.int .i64 0)
    rw [show (w.alloc (.cells #[.int .i64 5, .int .i64 n, .slice dP P.length cP, .slice (some ⟨b, o, none⟩) M.length cM, .int .i64 k] 26)).heap.size = w.heap.size + 1 by go_simp] at h1
    rw [hW]
    exact h1
  replace hW := hid hW
  obtain ⟨V, hV⟩ : ∃ V, V = W.alloc (.cells #[.int .i64 5, .int .i64 n, .slice dP P.length cP, .slice (some ⟨b, o, none⟩) M.length cM, .int .i64 k] 26) := ⟨_, rfl⟩
  have eWV : Ext W V := by rw [hV]; infer_instance
  have hC1 : BX V (w.heap.size + 2) (.int .i64 5) (.int .i64 n) (.slice dP P.length cP) (.slice (some ⟨b, o, none⟩) M.length cM) (.int .i64 k) := by rw [hV, ← hWs]; exact BX.alloc _ _ _ _ _ _ _
  have hVs : V.heap.size = w.heap.size + 3 := by rw [hV]; go_simp
  have hA1 := hA.ext eWV
  have hR1 := hR.ext eWV
  have eV : Ext w V := Ext.trans eW eWV
  obtain ⟨b0, b1, b2, b3, b4, k0, k1, k2, k3, k4⟩ := hA
  go_upto_region 2 with fail
  rw [← hV]
  replace hV := hid hV
  clear b0 b1 b2 b3 b4 k0 k1 k2 k3 k4 hR hWs eW eWV
  obtain ⟨c, hc⟩ : ∃ c, c = w.heap.size + 2 := ⟨_, rfl⟩
  obtain ⟨r, hr⟩ : ∃ r, r = w.heap.size + 1 := ⟨_, rfl⟩
  obtain ⟨a, ha⟩ : ∃ a, a = w.heap.size := ⟨_, rfl⟩
  obtain ⟨Q, hQ⟩ : ∃ Q, Q = V.heap.size := ⟨_, rfl⟩
  rw [← hc] at hC1 ⊢
  rw [← hr] at hR1 ⊢
  rw [← ha] at hA1 hc hr hVs ⊢
  rw [← hQ] at hVs
  have hca : c ≠ a := by omega
  have hcr : c ≠ r := by omega
  have har : a ≠ r := by omega
  have hcQ : c < Q := by omega
  have haQ : a < Q := by omega
  have hrQ : r < Q := by omega
  have hwc : w.heap.size ≤ c := by omega
  have hwr : w.heap.size ≤ r := by omega
  have hwQ : w.heap.size ≤ Q := by omega
  clear hVs
  replace hc := hid hc
  replace hr := hid hr
  replace ha := hid ha
  replace hQ := hid hQ
  have hA1' := hA1
  obtain ⟨b0, b1, b2, b3, b4, k0, k1, k2, k3, k4⟩ := hA1'
  have hbx := hid b3
  go_upto_region 7 with fail
  clear b0 b1 b2 b3 b4 k0 k1 k2 k3 k4
  refine region_held_from (w0 := V) (S := fun u => u.cell? ⟨a, 3, none⟩ = some (.slice (some ⟨b, o, none⟩) M.length cM) ∧ u.cell? ⟨b, o + j, none⟩ = some (.int .i64 y)) (by kernel_rfl) (fun u e => ⟨e.cell hbx.out, hpg.out u (Ext.trans (Ext.trans ‹Ext w0 w› eV) e)⟩) (fun wd ed hHeld0 => ?_)
  refine wpAnyH_take (i := 0) (v := .pointer (some ⟨a, 3, none⟩)) rfl (by kernel_rfl) (by kernel_rfl) (by kernel_rfl) (fun _ _ _ h => h) (Or.inl ⟨by rfl, by intro wx hx; go_simp⟩) (by assumption) ?_
  try simp only [List.getElem_toArray, List.getElem_cons_zero, Act.put, List.setIfInBounds_toArray, List.set_cons_zero, List.set_cons_succ]
  refine wpAnyH_take (i := 1) (v := .slice (some ⟨b, o, none⟩) M.length cM) rfl (by kernel_rfl) (by kernel_rfl) (by kernel_rfl) (fun _ _ _ h => h) (Or.inl ⟨by rfl, by intro wx hx; obtain ⟨_, _⟩ := hx; go_simp⟩) (by assumption) ?_
  try simp only [List.getElem_toArray, List.getElem_cons_succ, List.getElem_cons_zero, Act.put, List.setIfInBounds_toArray, List.set_cons_zero, List.set_cons_succ]
  refine wpAnyH_take (i := 2) (v := .int .i64 j) rfl (by kernel_rfl) (by kernel_rfl) (by kernel_rfl) (fun _ _ _ h => h) (Or.inl ⟨by rfl, by intro wx hx; go_simp⟩) (by assumption) ?_
  try simp only [List.getElem_toArray, List.getElem_cons_succ, List.getElem_cons_zero, Act.put, List.setIfInBounds_toArray, List.set_cons_zero, List.set_cons_succ]
  refine wpAnyH_take (i := 3) (v := .pointer (some ⟨a, 3, none⟩)) rfl (by kernel_rfl) (by kernel_rfl) (by kernel_rfl) (fun _ _ _ h => h) (Or.inl ⟨by rfl, by intro wx hx; go_simp⟩) (by assumption) ?_
  try simp only [List.getElem_toArray, List.getElem_cons_succ, List.getElem_cons_zero, Act.put, List.setIfInBounds_toArray, List.set_cons_zero, List.set_cons_succ]
  refine wpAnyH_take (i := 4) (v := .slice (some ⟨b, o, none⟩) M.length cM) rfl (by kernel_rfl) (by kernel_rfl) (by kernel_rfl) (fun _ _ _ h => h) (Or.inl ⟨by rfl, by intro wx hx; obtain ⟨_, _⟩ := hx; go_simp⟩) (by assumption) ?_
  try simp only [List.getElem_toArray, List.getElem_cons_succ, List.getElem_cons_zero, Act.put, List.setIfInBounds_toArray, List.set_cons_zero, List.set_cons_succ]
  refine wpAnyH_take (i := 5) (v := .int .i64 j) rfl (by kernel_rfl) (by kernel_rfl) (by kernel_rfl) (fun _ _ _ h => h) (Or.inl ⟨by rfl, by intro wx hx; go_simp⟩) (by assumption) ?_
  try simp only [List.getElem_toArray, List.getElem_cons_succ, List.getElem_cons_zero, Act.put, List.setIfInBounds_toArray, List.set_cons_zero, List.set_cons_succ]
  refine wpAnyH_take (i := 6) (v := .pointer (some ⟨b, o + j, none⟩)) rfl (by kernel_rfl) (by kernel_rfl) (by kernel_rfl) (fun _ _ _ h => h) (Or.inl ⟨by rfl, by intro wx hx; go_simp⟩) (by assumption) ?_
  try simp only [List.getElem_toArray, List.getElem_cons_succ, List.getElem_cons_zero, Act.put, List.setIfInBounds_toArray, List.set_cons_zero, List.set_cons_succ]
  refine wpAnyH_take (i := 7) (v := .int .i64 y) rfl (by kernel_rfl) (by kernel_rfl) (by kernel_rfl) (fun _ _ _ h => h) (Or.inl ⟨by rfl, by intro wx hx; obtain ⟨_, _⟩ := hx; go_simp⟩) (by assumption) ?_
  try simp only [List.getElem_toArray, List.getElem_cons_succ, List.getElem_cons_zero, Act.put, List.setIfInBounds_toArray, List.set_cons_zero, List.set_cons_succ]
  refine wpAnyH_take (i := 8) (v := .int .i64 (y + 1)) rfl (by kernel_rfl) (by kernel_rfl) (by kernel_rfl) (fun _ _ _ h => h) (Or.inl ⟨by rfl, by intro wx hx; go_simp; exact IntWalk.i64_in _ (by omega)⟩) (by assumption) ?_
  try simp only [List.getElem_toArray, List.getElem_cons_succ, List.getElem_cons_zero, Act.put, List.setIfInBounds_toArray, List.set_cons_zero, List.set_cons_succ]
  refine wpAnyH_ready (rs := [9]) (by kernel_rfl) (by simp) ?_
  refine AllReadyH.cons rfl (fun K hK => ?_) AllReadyH.nil
  go_simp
  refine (hLt.out wd).mono ?_
  rintro e w1 ⟨rfl, rfl⟩
  refine hK.out _ _ hHeld0 (fun _ => ?_)
  clear hK K
  try simp only [List.getElem_toArray, List.getElem_cons_succ, List.getElem_cons_zero, Act.put, List.setIfInBounds_toArray, List.set_cons_zero, List.set_cons_succ]
  refine wpAnyH_ready (rs := [10]) (by kernel_rfl) (by simp) ?_
  refine AllReadyH.cons rfl (fun K hK => ?_) AllReadyH.nil
  go_simp
  refine (hWt.out _ (Ext.trans (Ext.trans ‹Ext w0 w› eV) ed)).mono ?_
  rintro e w2 ⟨d2, m2, rfl, own2, e2⟩
  have e2V : Ext V w2 := Ext.trans ed e2
  refine hK.out _ _ ⟨e2V.cell hbx.out, hpg.out _ (Ext.trans (Ext.trans ‹Ext w0 w› eV) e2V)⟩ (fun _ => ?_)
  clear hK K
  try simp only [List.getElem_toArray, List.getElem_cons_succ, List.getElem_cons_zero, Act.put, List.setIfInBounds_toArray, List.set_cons_zero, List.set_cons_succ]
  refine wpAnyH_take (i := 11) (v := .pointer (some ⟨c, 3, none⟩)) rfl (by kernel_rfl) (by kernel_rfl) (by kernel_rfl) (fun _ _ _ h => h) (Or.inl ⟨by rfl, by intro wx hx; go_simp⟩) (by assumption) ?_
  try simp only [List.getElem_toArray, List.getElem_cons_succ, List.getElem_cons_zero, Act.put, List.setIfInBounds_toArray, List.set_cons_zero, List.set_cons_succ]
  have hC2 := hC1.ext e2V
  have hR2 := hR1.ext e2V
  have hC3 := hC2.set3 (.slice d2 M.length m2)
  obtain ⟨b0, b1, b2, b3, b4, k0, k1, k2, k3, k4⟩ := hC2
  have e9 : Ext w (w2.setCell ⟨c, 3, none⟩ (.slice d2 M.length m2)) := @Ext.set _ _ (Ext.trans eV e2V) ⟨c, 3, none⟩ hwc _
  have hA9 := (hA1.ext e2V).other (p := ⟨c, 3, none⟩) hca (.slice d2 M.length m2)
  have hR9 := hR2.other (p := ⟨c, 3, none⟩) hcr (.slice d2 M.length m2)
  have hC9 := hC3
  have hcw1 : c < wd.heap.size := Nat.lt_of_lt_of_le hcQ (by rw [hQ.out]; exact ed.below.size)
  have hrw1 : r < wd.heap.size := Nat.lt_of_lt_of_le hrQ (by rw [hQ.out]; exact ed.below.size)
  have own9 := own2.setBelow (p := ⟨c, 3, none⟩) hcw1 (.slice d2 M.length m2)
  clear hA1 hC1 hR1 own2 e2
  refine wpAnyH_ready (rs := [12]) (by kernel_rfl) (by simp) ?_
  refine AllReadyH.cons rfl (fun K hK => ?_) AllReadyH.nil
  go_simp
  refine hK.out _ _ ⟨hA9.c3, hpg.out _ (Ext.trans ‹Ext w0 w› e9)⟩ (fun _ => ?_)
  clear hK K
  try simp only [List.getElem_toArray, List.getElem_cons_succ, List.getElem_cons_zero, Act.put, List.setIfInBounds_toArray, List.set_cons_zero, List.set_cons_succ]
  refine wpAnyH_done (by kernel_rfl) ?_ _
  clear b0 b1 b2 b3 b4 k0 k1 k2 k3 k4 hR2 hC3 hA9 e2V
  generalize w2.setCell ⟨c, 3, none⟩ (.slice d2 M.length m2) = w9 at *
  obtain ⟨hZ, eZ, oZ⟩ := res_store (v0 := .int .i64 5) (v1 := .int .i64 n) (v2 := .slice dP P.length cP) (v3 := .slice d2 M.length m2) (v4 := .int .i64 k) hR9 e9 hwr
  obtain ⟨b0, b1, b2, b3, b4, k0, k1, k2, k3, k4⟩ := hC9
  obtain ⟨r0, r1, r2, r3, r4, f0, f1, f2, f3, f4⟩ := hR9
  go_wp2_with fail
  refine bodyPost_ret (res_bx1 rfl rfl hZ) rfl ?_
  have s' := s.mark (.inl rfl) (v := v) j hvb (fun q => absurd q (by decide))
  have own10 := oZ _ _ hrw1 own9
  exact ⟨P, M.set j v, k, dP, P.length, cP, d2, M.length, m2, rfl, s', RF.of gP hP (Ext.trans ‹Ext w0 w› eZ), own_rfM s' own10 hwr hrw1, eZ⟩
theorem l4Hit_any {p : Int} {n k j : Nat} {P M : List Int} {dP dM : Option Addr} {cP cM : Nat} {w0 w : World} [Ext w0 w] (hP : IsInts w0 (.slice dP P.length cP) P) (hM : IsInts w0 (.slice dM M.length cM) M) {G : Nat → Prop} (gP : GB G (.slice dP P.length cP) P) (gM : GB G (.slice dM M.length cM) M) (s : ST p n P M k) (hj : j < P.length) :
    Calls Tryz.prog 82 #[.agg #[.int .i64 p, .int .i64 n, .slice dP P.length cP, .slice dM M.length cM, .int .i64 k], .int .i64 j] w (SPost G p n w0 w) := by
  have h1 := s.p1
  have h2 := s.p2
  have h : p = 1 ∨ p = 2 ∨ p = 3 ∨ p = 4 ∨ p = 5 ∨ p = 6 ∨ p = 7 := by omega
  rcases h with rfl | rfl | rfl | rfl | rfl | rfl | rfl
  · exact l4Hit1_any hP hM gP gM s hj
  · exact l4Hit2_any hP hM gP gM s hj
  · exact l4Hit3_any hP hM gP gM s hj
  · exact l4Hit4_any hP hM gP gM s hj
  · exact l4Hit5_any hP hM gP gM s hj
  · exact l4Hit6_any hP hM gP gM s hj
  · exact l4Hit7_any hP hM gP gM s hj
end Go.Proofs.YtaphnkgjcmneoaaGreatDoor
