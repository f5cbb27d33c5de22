/- A fault of a clock. -/
import Derived.Test.YtaphnkgjcmneoaaGreatDoorCsw
import Derived.Test.YtaphnkgjcmneoaaGreatDoorCsx
import Derived.Test.YtaphnkgjcmneoaaGreatDoorCjf
namespace Go.Proofs.YtaphnkgjcmneoaaGreatDoor
open Go.RowKit


theorem own_rf0 {u w : World} {G : Nat → Prop} {lo r B e n m : Nat} {d : Option Addr} {L : List Int} {R : List Row} (o : Own u B (intRowOf e (.slice d n m) L :: R)) (hwr : w.heap.size ≤ r) (hr : r < B) (hs : Short L.length) (hi : ∀ x ∈ L, I64 x) : RF u G lo w.heap.size (.slice d n m) L := by
  have hI := o.reads hs hi
  refine ⟨hI, fun b o' n' m' hv hl => .inr ?_⟩
  cases hv
  have hn := hI.len
  subst hn
  obtain ⟨g, hg⟩ := own_ptr o rfl hl
  cases hg
  have := own_low o rfl
  omega
theorem own_rf {p z h : Int} {P M : List Int} (s : ST p z P M h) {u w : World} {G : Nat → Prop} {lo r B e n m : Nat} {d : Option Addr} {R : List Row} (o : Own u B (intRowOf e (.slice d n m) P :: R)) (hwr : w.heap.size ≤ r) (hr : r < B) : RF u G lo w.heap.size (.slice d n m) P := own_rf0 o hwr hr s.iP.2.1 s.iP.2.2
theorem own_rfM {p z h : Int} {P M : List Int} (s : ST p z P M h) {u w : World} {G : Nat → Prop} {lo r B e n m : Nat} {d : Option Addr} {R : List Row} (o : Own u B (intRowOf e (.slice d n m) M :: R)) (hwr : w.heap.size ≤ r) (hr : r < B) : RF u G lo w.heap.size (.slice d n m) M := own_rf0 o hwr hr s.iM.2.1 s.iM.2.2
set_option maxHeartbeats 3200000 in
set_option maxRecDepth 100000 in
theorem l4Clock_any {n k : Nat} {P M : List Int} {x : Int} {dP dM : Option Addr} {cP cM : Nat} {w0 w : World} [Ext w0 w] (hP : IsInts w0 (.slice dP P.length cP) P) (hM : IsInts w0 (.slice dM M.length cM) M) {G : Nat → Prop} (_gP : GB G (.slice dP P.length cP) P) (_gM : GB G (.slice dM M.length cM) M) (s : ST 6 n P M k) (hx : 0 ≤ x ∧ x ≤ 7) :
    Calls Tryz.prog 97 #[.agg #[.int .i64 6, .int .i64 n, .slice dP P.length cP, .slice dM M.length cM, .int .i64 k], .int .i64 x] w (SPost G 6 n w0 w) := by
  unfold SPost
  have hO1 := hid (fun (u : World) (e : Ext w0 u) => @l1Own_any _ P w0 u e hP)
  have hO2 := hid (fun (u : World) (e : Ext w0 u) => @l1Own_any _ M w0 u e hM)
  have hW4 := hid (fun (u : World) (e : Ext w0 u) (j : Nat) (hj : j < P.length) => @l4With_any _ P j x w0 u e hP hj)
  have hT := hid (fun (u : World) (e : Ext w0 u) (hk : k < M.length) (h01 : ∀ x ∈ M, 0 ≤ x ∧ x ≤ 1) => @l4Turn_any 6 k M dP dM P.length cP cM w0 u e hM hk s.iM.1 h01)
  have hml := hid (s.mks (.inr rfl))
  have hlen := s.len
  have hz1 := s.z1
  have hz2 := s.z2
  have hh2 := s.h2
  have h01 : ∀ y ∈ M, 0 ≤ y ∧ y ≤ 1 := fun y hy => ⟨(s.mv y hy).1, s.m6 rfl y hy⟩
  obtain ⟨W, hW⟩ : ∃ W, W = (w.alloc (.cells #[.int .i64 6, .int .i64 n, .slice dP P.length cP, .slice dM M.length cM, .int .i64 k] 26)).alloc (.cells #[.int .i64 0, .int .i64 0, .slice none 0 0, .slice none 0 0, .int .i64 0] 26) := ⟨_, rfl⟩
  go_enter Tryz.func97, Tryz.ntmps97
  go_upto_region 1 with fail
  rw [← hW]
  have eW : Ext w W := by rw [hW]; infer_instance
  have hWs : W.heap.size = w.heap.size + 2 := by rw [hW]; go_simp
  have hA : BX W w.heap.size (.int .i64 6) (.int .i64 n) (.slice dP P.length cP) (.slice dM M.length cM) (.int .i64 k) := by
    rw [hW]
    exact (BX.alloc w 26 (.int .i64 6) (.int .i64 n) (.slice dP P.length cP) (.slice dM M.length cM) (.int .i64 k)).ext inferInstance
  have hR : BX W (w.heap.size + 1) (.int .i64 0) (.int .i64 0) (.slice none 0 0) (.slice none 0 0) (.int .i64 0) := by
    have h1 := BX.alloc (w.alloc (.cells #[.int .i64 6, .int .i64 n, .slice dP P.length cP, .slice dM M.length cM, .int .i64 k] 26)) 26 (.int .i64 0) (.int .i64 0) (.slice none 0 0) (.slice none 0 0) (.int .i64 0)
    rw [show (w.alloc (.cells #[.int .i64 6, .int .i64 n, .slice dP P.length cP, .slice dM M.length cM, .int .i64 k] 26)).heap.size = w.heap.size + 1 by go_simp] at h1
    rw [hW]
    exact h1
  replace hW := hid hW
  obtain ⟨V, hV⟩ : ∃ V, V = W.alloc (.cells #[.int .i64 6, .int .i64 n, .slice dP P.length cP, .slice dM M.length cM, .int .i64 k] 26) := ⟨_, rfl⟩
  have eWV : Ext W V := by rw [hV]; infer_instance
  have hC1 : BX V (w.heap.size + 2) (.int .i64 6) (.int .i64 n) (.slice dP P.length cP) (.slice dM M.length cM) (.int .i64 k) := by rw [hV, ← hWs]; exact BX.alloc _ _ _ _ _ _ _
  have hVs : V.heap.size = w.heap.size + 3 := by rw [hV]; go_simp
  have hA1 := hA.ext eWV
  have hR1 := hR.ext eWV
  have eV : Ext w V := Ext.trans eW eWV
  obtain ⟨b0, b1, b2, b3, b4, k0, k1, k2, k3, k4⟩ := hA
  go_upto_region 2 with fail
  rw [← hV]
  replace hV := hid hV
  clear b0 b1 b2 b3 b4 k0 k1 k2 k3 k4 hR hWs eW eWV
  obtain ⟨c, hc⟩ : ∃ c, c = w.heap.size + 2 := ⟨_, rfl⟩
  obtain ⟨r, hr⟩ : ∃ r, r = w.heap.size + 1 := ⟨_, rfl⟩
  obtain ⟨a, ha⟩ : ∃ a, a = w.heap.size := ⟨_, rfl⟩
  obtain ⟨Q, hQ⟩ : ∃ Q, Q = V.heap.size := ⟨_, rfl⟩
  rw [← hc] at hC1 ⊢
  rw [← hr] at hR1 ⊢
  rw [← ha] at hA1 hc hr hVs ⊢
  rw [← hQ] at hVs
  have hca : c ≠ a := by omega
  have hcr : c ≠ r := by omega
  have har : a ≠ r := by omega
  have hcQ : c < Q := by omega
  have haQ : a < Q := by omega
  have hrQ : r < Q := by omega
  have hwc : w.heap.size ≤ c := by omega
  have hwr : w.heap.size ≤ r := by omega
  have hwQ : w.heap.size ≤ Q := by omega
  clear hVs
  replace hc := hid hc
  replace hr := hid hr
  replace ha := hid ha
  replace hQ := hid hQ
  have hA1' := hA1
  obtain ⟨b0, b1, b2, b3, b4, k0, k1, k2, k3, k4⟩ := hA1'
  by_cases hlt : P.length < n
  · go_wp2_with fail
    refine (hO1.out V (Ext.trans ‹Ext w0 w› eV)).mono ?_
    rintro e w1 ⟨d1, m1, rfl, own1, e1⟩
    rw [← hQ.out] at own1
    have hC2 := hC1.ext e1
    have hA2 := hA1.ext e1
    have hR2 := hR1.ext e1
    have hB1 : Q ≤ w1.heap.size := by rw [hQ.out]; exact e1.below.size
    have e01 : Ext w w1 := Ext.trans eV e1
    clear b0 b1 b2 b3 b4 k0 k1 k2 k3 k4 hC1 hA1 hR1
    unfold intRowOf at own1
    go_upto_region 4 with (at_builtin; refine wpList_append1 rfl _ _ _ rfl elemInt rfl own1 hB1 rfl rfl (by omega) (by omega) ?_; intro v7 w7 ho7 hb7; obtain ⟨d7, m7, hv7⟩ := ho7.form; (obtain rfl : v7 = .slice d7 (P.length + 1) m7 := hv7); have hC7 := hC2.below hb7 hcQ; obtain ⟨b0, b1, b2, b3, b4, k0, k1, k2, k3, k4⟩ := hC7)
    have own7 := (own_grow1 ho7 rfl).setBelow (p := ⟨c, 2, none⟩) hcQ (.slice d7 (P.length + 1) m7)
    have hC8 := (hC2.below hb7 hcQ).set2 (.slice d7 (P.length + 1) m7)
    have hA8 := (hA2.below hb7 haQ).other (p := ⟨c, 2, none⟩) hca (.slice d7 (P.length + 1) m7)
    have hR8 := (hR2.below hb7 hrQ).other (p := ⟨c, 2, none⟩) hcr (.slice d7 (P.length + 1) m7)
    have e8 : Ext w (w7.setCell ⟨c, 2, none⟩ (.slice d7 (P.length + 1) m7)) := @Ext.set _ _ ⟨e01.below.trans (hb7.mono hwQ)⟩ ⟨c, 2, none⟩ hwc _
    have hB8 : Q ≤ (w7.setCell ⟨c, 2, none⟩ (.slice d7 (P.length + 1) m7)).heap.size := by
      rw [show (w7.setCell ⟨c, 2, none⟩ (.slice d7 (P.length + 1) m7)).heap.size = w7.heap.size by go_simp]
      exact Nat.le_trans hB1 hb7.size
    clear ho7 hb7 hC2 hA2 hR2 own1 b0 b1 b2 b3 b4 k0 k1 k2 k3 k4
    generalize w7.setCell ⟨c, 2, none⟩ (.slice d7 (P.length + 1) m7) = w8 at *
    have hA8' := hA8
    obtain ⟨b0, b1, b2, b3, b4, k0, k1, k2, k3, k4⟩ := hA8'
    go_wp2_with fail
    refine (hO2.out w8 (Ext.trans ‹Ext w0 w› e8)).mono ?_
    rintro e w2 ⟨d2, m2, rfl, own2, e2⟩
    have hC2 := hC8.ext e2
    have hR2 := hR8.ext e2
    have hB2 : w8.heap.size ≤ w2.heap.size := e2.below.size
    have e02 : Ext w w2 := Ext.trans e8 e2
    have own9 : Own w2 Q (⟨3, 1, .slice d2 M.length m2, M.length, M.map (Value.int .i64)⟩ :: [intRowOf 3 (.slice d7 (P.length + 1) m7) (P ++ [x])]) := Own.join (w := w8) (w' := w2) own7 own2 hB8
    have hB9 : Q ≤ w2.heap.size := Nat.le_trans hB8 hB2
    clear b0 b1 b2 b3 b4 k0 k1 k2 k3 k4 hC8 hA8 hR8 own7 own2 e2 e8
    go_upto_region 5 with (at_builtin; refine wpList_append1 rfl _ _ _ rfl elemInt rfl own9 hB9 rfl rfl (by have := hml.out; omega) (by have := hml.out; omega) ?_; intro v7 w7 ho7 hb7; obtain ⟨d8, m8, hv7⟩ := ho7.form; (obtain rfl : v7 = .slice d8 (M.length + 1) m8 := hv7); have hC7 := hC2.below hb7 hcQ; obtain ⟨b0, b1, b2, b3, b4, k0, k1, k2, k3, k4⟩ := hC7)
    have own7 := (own_grow1 ho7 rfl).setBelow (p := ⟨c, 3, none⟩) hcQ (.slice d8 (M.length + 1) m8)
    have hC8 := (hC2.below hb7 hcQ).set3 (.slice d8 (M.length + 1) m8)
    have hR8 := (hR2.below hb7 hrQ).other (p := ⟨c, 3, none⟩) hcr (.slice d8 (M.length + 1) m8)
    have e8 : Ext w (w7.setCell ⟨c, 3, none⟩ (.slice d8 (M.length + 1) m8)) := @Ext.set _ _ ⟨e02.below.trans (hb7.mono hwQ)⟩ ⟨c, 3, none⟩ hwc _
    clear ho7 hb7 hC2 hR2 own9 b0 b1 b2 b3 b4 k0 k1 k2 k3 k4
    generalize w7.setCell ⟨c, 3, none⟩ (.slice d8 (M.length + 1) m8) = w9 at *
    obtain ⟨hZ, eZ, oZ⟩ := res_store (v0 := .int .i64 6) (v1 := .int .i64 n) (v2 := .slice d7 (P.length + 1) m7) (v3 := .slice d8 (M.length + 1) m8) (v4 := .int .i64 k) hR8 e8 hwr
    have own14 := oZ _ _ hrQ own7
    obtain ⟨b0, b1, b2, b3, b4, k0, k1, k2, k3, k4⟩ := hC8
    obtain ⟨r0, r1, r2, r3, r4, f0, f1, f2, f3, f4⟩ := hR8
    go_wp2_with fail
    refine bodyPost_ret (res_bx1 rfl rfl hZ) rfl ?_
    have s' := s.push (by omega) hx
    exact ⟨P ++ [x], M ++ [1], k, d7, P.length + 1, m7, d8, M.length + 1, m8, rfl, s', own_rf s' own14.tail hwr hrQ, own_rfM s' own14 hwr hrQ, eZ⟩
  · obtain rfl : n = P.length := by omega
    have hkP : k < P.length := by omega
    have hT2 := hid (fun (u : World) (e : Ext w0 u) => by
      have h := hT.out u e (by rw [hml.out]; exact hkP) h01
      rw [show ((M.length : Nat) : Int) = ((P.length : Nat) : Int) by rw [hml.out]] at h
      exact h)
    clear hT
    go_wp2_with fail
    refine (hT2.out V (Ext.trans ‹Ext w0 w› eV)).mono ?_
    rintro e w1 ⟨g, m1, k', M', rfl, hl', h01', hk', own1, e1⟩
    rw [← hQ.out] at own1
    have hC2 := hC1.ext e1
    have hA2 := hA1.ext e1
    have hR2 := hR1.ext e1
    have e01 : Ext w w1 := Ext.trans eV e1
    have hkM := hk'
    rw [hml.out] at hk'
    clear b0 b1 b2 b3 b4 k0 k1 k2 k3 k4 hC1 hA1 hR1
    have hgQ := own_low own1 hl'.symm
    obtain ⟨hC3, e3, o3⟩ := res_store (v0 := .int .i64 6) (v1 := .int .i64 P.length) (v2 := .slice dP P.length cP) (v3 := .slice (some ⟨g, 0, none⟩) M.length m1) (v4 := .int .i64 k') hC2 e01 hwc
    have hA3 := res_other (v0 := .int .i64 6) (v1 := .int .i64 P.length) (v2 := .slice dP P.length cP) (v3 := .slice (some ⟨g, 0, none⟩) M.length m1) (v4 := .int .i64 k') hA2 hca
    have hR3 := res_other (v0 := .int .i64 6) (v1 := .int .i64 P.length) (v2 := .slice dP P.length cP) (v3 := .slice (some ⟨g, 0, none⟩) M.length m1) (v4 := .int .i64 k') hR2 hcr
    have own3 := o3 _ _ hcQ own1
    obtain ⟨b0, b1, b2, b3, b4, k0, k1, k2, k3, k4⟩ := hC2
    clear o3 own1 hA2 hR2
    go_upto_region 7 with fail
    clear b0 b1 b2 b3 b4 k0 k1 k2 k3 k4
    generalize ((((w1.setCell ⟨c, 0, none⟩ (.int .i64 6)).setCell ⟨c, 1, none⟩ (.int .i64 P.length)).setCell ⟨c, 2, none⟩ (.slice dP P.length cP)).setCell ⟨c, 3, none⟩ (.slice (some ⟨g, 0, none⟩) M.length m1)).setCell ⟨c, 4, none⟩ (.int .i64 k') = w3 at *
    have hC3' := hC3
    have hA3' := hA3
    obtain ⟨b0, b1, b2, b3, b4, k0, k1, k2, k3, k4⟩ := hC3'
    obtain ⟨a0, a1, a2, a3, a4, -, -, -, -, -⟩ := hA3'
    go_wp2_with fail
    refine (hW4.out w3 (Ext.trans ‹Ext w0 w› e3) k' hk').mono ?_
    rintro e w4 ⟨d4, m4, rfl, own4, e4⟩
    clear b0 b1 b2 b3 b4 k0 k1 k2 k3 k4 a0 a1 a2 a3 a4
    have hg3 := (own_low own3 hl'.symm).2
    have hc3 : c < w3.heap.size := by omega
    have hC4 := hC3.ext e4
    have hA4 := hA3.ext e4
    have hR4 := hR3.ext e4
    have ownM := (own3.ext (w' := w4)).setBelow (p := ⟨c, 2, none⟩) hcQ (.slice d4 P.length m4)
    have ownP := own4.setBelow (p := ⟨c, 2, none⟩) hc3 (.slice d4 P.length m4)
    have hC5 := hC4.set2 (.slice d4 P.length m4)
    have hA5 := hA4.other (p := ⟨c, 2, none⟩) hca (.slice d4 P.length m4)
    have hR5 := hR4.other (p := ⟨c, 2, none⟩) hcr (.slice d4 P.length m4)
    have e5 : Ext w (w4.setCell ⟨c, 2, none⟩ (.slice d4 P.length m4)) := @Ext.set _ _ (Ext.trans e3 e4) ⟨c, 2, none⟩ hwc _
    obtain ⟨B3, hB3⟩ : ∃ B3, B3 = w3.heap.size := ⟨_, rfl⟩
    rw [← hB3] at hg3 hc3 ownP
    clear own3 own4 hC3 hA3 hR3 hA4 hR4 hB3
    obtain ⟨b0, b1, b2, b3, b4, k0, k1, k2, k3, k4⟩ := hC4
    go_upto_region 8 with fail
    clear b0 b1 b2 b3 b4 k0 k1 k2 k3 k4 e4
    generalize w4.setCell ⟨c, 2, none⟩ (.slice d4 P.length m4) = w5 at *
    have hC5' := hC5
    obtain ⟨b0, b1, b2, b3, b4, k0, k1, k2, k3, k4⟩ := hC5'
    obtain ⟨x0, x0'⟩ := own_nth ownM hl'.symm (k := k') (by rw [hl', hml.out]; exact hk')
    have hcg : c ≠ g := by omega
    have hag : a ≠ g := by omega
    have hrg : r ≠ g := by omega
    have ownM6 := own_put (k := k') (x := 1) ownM hl'.symm
    have ownP6 := ownP.setBelow (p := ⟨g, k', none⟩) hg3 (.int .i64 1)
    have hC6 := hC5.other (p := ⟨g, k', none⟩) (Ne.symm hcg) (.int .i64 1)
    have hA6 := hA5.other (p := ⟨g, k', none⟩) (Ne.symm hag) (.int .i64 1)
    have hR6 := hR5.other (p := ⟨g, k', none⟩) (Ne.symm hrg) (.int .i64 1)
    have e6 : Ext w (w5.setCell ⟨g, k', none⟩ (.int .i64 1)) := @Ext.set _ _ e5 ⟨g, k', none⟩ (show w.heap.size ≤ g by omega) _
    clear hC5 hA5 hR5 e5 ownM ownP
    go_upto_region 9 with fail
    clear b0 b1 b2 b3 b4 k0 k1 k2 k3 k4 x0 x0'
    generalize w5.setCell ⟨g, k', none⟩ (.int .i64 1) = w6 at *
    have hC6' := hC6
    obtain ⟨b0, b1, b2, b3, b4, k0, k1, k2, k3, k4⟩ := hC6'
    obtain ⟨a0, a1, a2, a3, a4, -, -, -, -, -⟩ := hA6
    have hmod : ((k' : Int) + 1).tmod (P.length : Int) = ((((k' + 1) % P.length : Nat)) : Int) := by
      rw [show ((k' : Int) + 1) = ((k' + 1 : Nat) : Int) by omega]
      rfl
    obtain ⟨q, hq⟩ : ∃ q, q = (k' + 1) % P.length := ⟨_, rfl⟩
    have hqn : q < P.length := by rw [hq]; exact Nat.mod_lt _ (by omega)
    rw [← hq] at hmod
    replace hq := hid hq
    have ownM7 := ownM6.setBelow (p := ⟨c, 4, none⟩) hcQ (.int .i64 q)
    have ownP7 := ownP6.setBelow (p := ⟨c, 4, none⟩) hc3 (.int .i64 q)
    have hC7 := hC6.set4 (.int .i64 q)
    have hR7 := hR6.other (p := ⟨c, 4, none⟩) hcr (.int .i64 q)
    have e7 : Ext w (w6.setCell ⟨c, 4, none⟩ (.int .i64 q)) := @Ext.set _ _ e6 ⟨c, 4, none⟩ hwc _
    clear hC6 hR6 e6 ownM6 ownP6
    go_upto_region 10 with fail
    clear b0 b1 b2 b3 b4 k0 k1 k2 k3 k4 a0 a1 a2 a3 a4
    generalize w6.setCell ⟨c, 4, none⟩ (.int .i64 q) = w7 at *
    obtain ⟨hZ, eZ, oZ⟩ := res_store (v0 := .int .i64 6) (v1 := .int .i64 P.length) (v2 := .slice d4 P.length m4) (v3 := .slice (some ⟨g, 0, none⟩) M.length m1) (v4 := .int .i64 q) hR7 e7 hwr
    have oM := oZ _ _ hrQ ownM7
    have oP := oZ _ _ (show r < B3 by omega) ownP7
    obtain ⟨b0, b1, b2, b3, b4, k0, k1, k2, k3, k4⟩ := hC7
    obtain ⟨r0, r1, r2, r3, r4, f0, f1, f2, f3, f4⟩ := hR7
    go_wp2_with fail
    refine bodyPost_ret (res_bx1 rfl rfl hZ) rfl ?_
    have s1 := s.turn (h' := k') ⟨by omega, by omega⟩ hl' h01'
    have s' := s1.put (h' := q) (x := x) k' hx ⟨by omega, by omega⟩
    exact ⟨P.set k' x, M'.set k' 1, q, d4, P.length, m4, some ⟨g, 0, none⟩, M.length, m1, rfl, s', own_rf s' oP hwr (show r < B3 by omega), own_rfM s' oM hwr hrQ, eZ⟩
end Go.Proofs.YtaphnkgjcmneoaaGreatDoor
