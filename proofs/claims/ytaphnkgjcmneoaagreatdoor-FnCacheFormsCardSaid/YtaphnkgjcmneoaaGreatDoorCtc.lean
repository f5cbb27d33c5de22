/- A step. -/
import Derived.Test.YtaphnkgjcmneoaaGreatDoorCtb
namespace Go.Proofs.YtaphnkgjcmneoaaGreatDoor
open Go.RowKit

theorem RF.set {u : World} {G : Nat → Prop} {lo hi : Nat} {v : Value} {L : List Int} (h : RF u G lo hi v L) {p : Addr} (h1 : lo ≤ p.block) (h2 : p.block < hi) (x : Value) : RF (u.setCell p x) G lo hi v L := by
  obtain ⟨⟨a, n, q1, q2, q3, q4⟩, hn⟩ := h
  refine ⟨⟨a, n, q1, q2, q3, fun j hj => ?_⟩, hn⟩
  obtain ⟨b, o, h5, h6⟩ := q4 j hj
  refine ⟨b, o, h5, ?_⟩
  subst h5
  have h7 := hn b o _ _ q1 (by omega)
  have hb := Below.heap_setCell u p x b (by rcases h7 with ⟨_, h7⟩ | h7 <;> omega)
  exact (World.cell?_of_block (w := u) hb).trans h6
theorem rf_res {u : World} {G : Nat → Prop} {lo hi hi' r : Nat} {v v0 v1 v2 v3 v4 : Value} {L : List Int} (h : RF u G lo hi v L) (h1 : lo ≤ r) (h2 : r < hi) (h3 : hi' ≤ hi) :
    RF (((((u.setCell ⟨r, 0, none⟩ v0).setCell ⟨r, 1, none⟩ v1).setCell ⟨r, 2, none⟩ v2).setCell ⟨r, 3, none⟩ v3).setCell ⟨r, 4, none⟩ v4) G lo hi' v L := by
  have h4 := ((((h.set (p := ⟨r, 0, none⟩) h1 h2 v0).set (p := ⟨r, 1, none⟩) h1 h2 v1).set (p := ⟨r, 2, none⟩) h1 h2 v2).set (p := ⟨r, 3, none⟩) h1 h2 v3).set (p := ⟨r, 4, none⟩) h1 h2 v4
  refine ⟨h4.1, fun b o n m hv hl => ?_⟩
  rcases h4.2 b o n m hv hl with h5 | h5
  · exact .inl h5
  · exact .inr (by omega)
set_option maxHeartbeats 1600000 in
set_option maxRecDepth 100000 in
theorem l4Fault6_any {n k : Nat} {P M : List Int} {x : Int} {dP dM : Option Addr} {cP cM : Nat} {w0 w : World} [Ext w0 w] (hP : IsInts w0 (.slice dP P.length cP) P) (hM : IsInts w0 (.slice dM M.length cM) M) {G : Nat → Prop} (gP : GB G (.slice dP P.length cP) P) (gM : GB G (.slice dM M.length cM) M) (s : ST 6 n P M k) (hx : 0 ≤ x ∧ x ≤ 7) :
    Calls Tryz.prog 83 #[.agg #[.int .i64 6, .int .i64 n, .slice dP P.length cP, .slice dM M.length cM, .int .i64 k], .int .i64 x] w (SPost G 6 n w0 w) := by
  have hCl := hid (fun (u : World) (e : Ext w0 u) => @l4Clock_any n k P M x dP dM cP cM w0 u e hP hM G gP gM s hx)
  unfold SPost at hCl ⊢
  obtain ⟨W, hW⟩ : ∃ W, W = (w.alloc (.cells #[.int .i64 6, .int .i64 n, .slice dP P.length cP, .slice dM M.length cM, .int .i64 k] 26)).alloc (.cells #[.int .i64 0, .int .i64 0, .slice none 0 0, .slice none 0 0, .int .i64 0] 26) := ⟨_, rfl⟩
  go_enter Tryz.func83, Tryz.ntmps83
  go_upto_region 1 with fail
  rw [← hW]
  have eW : Ext w W := by rw [hW]; infer_instance
  have hWs : W.heap.size = w.heap.size + 2 := by rw [hW]; go_simp
  have hA : BX W w.heap.size (.int .i64 6) (.int .i64 n) (.slice dP P.length cP) (.slice dM M.length cM) (.int .i64 k) := by
    rw [hW]
    exact (BX.alloc w 26 (.int .i64 6) (.int .i64 n) (.slice dP P.length cP) (.slice dM M.length cM) (.int .i64 k)).ext inferInstance
  have hR : BX W (w.heap.size + 1) (.int .i64 0) (.int .i64 0) (.slice none 0 0) (.slice none 0 0) (.int .i64 0) := by
    have h1 := BX.alloc (w.alloc (.cells #[.int .i64 6, .int .i64 n, .slice dP P.length cP, .slice dM M.length cM, .int .i64 k] 26)) 26 (.int .i64 0) (.int .i64 0) (.slice none 0 0) (.slice none 0 0) (.int .i64 0)
    rw [show (w.alloc (.cells #[.int .i64 6, .int .i64 n, .slice dP P.length cP, .slice dM M.length cM, .int .i64 k] 26)).heap.size = w.heap.size + 1 by go_simp] at h1
    rw [hW]
    exact h1
  replace hW := hid hW
  obtain ⟨r, hr⟩ : ∃ r, r = w.heap.size + 1 := ⟨_, rfl⟩
  have hrW : r < W.heap.size := by omega
  have hwr : w.heap.size ≤ r := by omega
  have hwW : w.heap.size ≤ W.heap.size := by omega
  have hw0r : w0.heap.size ≤ r := Nat.le_trans (‹Ext w0 w›).below.size hwr
  rw [← hr] at hR ⊢
  replace hr := hid hr
  have hA' := hA
  obtain ⟨b0, b1, b2, b3, b4, k0, k1, k2, k3, k4⟩ := hA'
  go_wp2_with fail
  refine (hCl.out W (Ext.trans ‹Ext w0 w› eW)).mono ?_
  rintro e w1 ⟨P', M', h', dP', nP', cP', dM', nM', cM', rfl, s', rP, rM, e1⟩
  unfold cvl
  have hR1 := hR.ext (e1)
  have e01 : Ext w w1 := Ext.trans eW (e1)
  obtain ⟨hZ, eZ, -⟩ := res_store (v0 := .int .i64 6) (v1 := .int .i64 n) (v2 := .slice dP' nP' cP') (v3 := .slice dM' nM' cM') (v4 := .int .i64 h') hR1 e01 hwr
  have rP1 := rf_res (v0 := .int .i64 6) (v1 := .int .i64 n) (v2 := .slice dP' nP' cP') (v3 := .slice dM' nM' cM') (v4 := .int .i64 h') (hi' := w.heap.size) rP hw0r (Nat.lt_of_lt_of_le hrW Nat.le.refl) (Nat.le_trans hwW Nat.le.refl)
  have rM1 := rf_res (v0 := .int .i64 6) (v1 := .int .i64 n) (v2 := .slice dP' nP' cP') (v3 := .slice dM' nM' cM') (v4 := .int .i64 h') (hi' := w.heap.size) rM hw0r (Nat.lt_of_lt_of_le hrW Nat.le.refl) (Nat.le_trans hwW Nat.le.refl)
  clear b0 b1 b2 b3 b4 k0 k1 k2 k3 k4
  obtain ⟨r0, r1, r2, r3, r4, f0, f1, f2, f3, f4⟩ := hR1
  go_wp2_with fail
  refine bodyPost_ret (res_bx1 rfl rfl hZ) rfl ?_
  exact ⟨P', M', h', dP', nP', cP', dM', nM', cM', rfl, s', rP1, rM1, eZ⟩
theorem l4Fault_any {p : Int} {n k : Nat} {P M : List Int} {x : Int} {dP dM : Option Addr} {cP cM : Nat} {w0 w : World} [Ext w0 w] (hP : IsInts w0 (.slice dP P.length cP) P) (hM : IsInts w0 (.slice dM M.length cM) M) {G : Nat → Prop} (gP : GB G (.slice dP P.length cP) P) (gM : GB G (.slice dM M.length cM) M) (s : ST p n P M k) (hx : 0 ≤ x ∧ x ≤ 7) :
    Calls Tryz.prog 83 #[.agg #[.int .i64 p, .int .i64 n, .slice dP P.length cP, .slice dM M.length cM, .int .i64 k], .int .i64 x] w (SPost G p n w0 w) := by
  have h1 := s.p1
  have h2 := s.p2
  have h : p = 1 ∨ p = 2 ∨ p = 3 ∨ p = 4 ∨ p = 5 ∨ p = 6 ∨ p = 7 := by omega
  rcases h with rfl | rfl | rfl | rfl | rfl | rfl | rfl
  · exact l4Fault1_any hP hM gP gM s hx
  · exact l4Fault2_any hP hM gP gM s hx
  · exact l4Fault3_any hP hM gP gM s hx
  · exact l4Fault4_any hP hM gP gM s hx
  · exact l4Fault5_any hP hM gP gM s hx
  · exact l4Fault6_any hP hM gP gM s hx
  · exact l4Fault7_any hP hM gP gM s hx
set_option maxHeartbeats 1600000 in
set_option maxRecDepth 100000 in
theorem l4Step_any {p : Int} {n k : Nat} {P M : List Int} {x : Int} {dP dM : Option Addr} {cP cM : Nat} {w0 w : World} [Ext w0 w] (hP : IsInts w0 (.slice dP P.length cP) P) (hM : IsInts w0 (.slice dM M.length cM) M) {G : Nat → Prop} (gP : GB G (.slice dP P.length cP) P) (gM : GB G (.slice dM M.length cM) M) (s : ST p n P M k) (hx : 0 ≤ x ∧ x ≤ 7) :
    Calls Tryz.prog 64 #[.agg #[.int .i64 p, .int .i64 n, .slice dP P.length cP, .slice dM M.length cM, .int .i64 k], .int .i64 x] w (SPost G p n w0 w) := by
  have hAt := hid (fun (u : World) (e : Ext w0 u) => @l4At_any _ P x w0 u e hP)
  have hHi := hid (fun (u : World) (e : Ext w0 u) (j : Nat) (hj : j < P.length) => @l4Hit_any p n k j P M dP dM cP cM w0 u e hP hM G gP gM s hj)
  have hFa := hid (fun (u : World) (e : Ext w0 u) => @l4Fault_any p n k P M x dP dM cP cM w0 u e hP hM G gP gM s hx)
  have hl6 := s.iP.1
  unfold SPost at hHi hFa ⊢
  replace s := hid s
  obtain ⟨W, hW⟩ : ∃ W, W = (w.alloc (.cells #[.int .i64 p, .int .i64 n, .slice dP P.length cP, .slice dM M.length cM, .int .i64 k] 26)).alloc (.cells #[.int .i64 0, .int .i64 0, .slice none 0 0, .slice none 0 0, .int .i64 0] 26) := ⟨_, rfl⟩
  go_enter Tryz.func64, Tryz.ntmps64
  go_upto_region 1 with fail
  rw [← hW]
  have eW : Ext w W := by rw [hW]; infer_instance
  have hWs : W.heap.size = w.heap.size + 2 := by rw [hW]; go_simp
  have hA : BX W w.heap.size (.int .i64 p) (.int .i64 n) (.slice dP P.length cP) (.slice dM M.length cM) (.int .i64 k) := by
    rw [hW]
    exact (BX.alloc w 26 (.int .i64 p) (.int .i64 n) (.slice dP P.length cP) (.slice dM M.length cM) (.int .i64 k)).ext inferInstance
  have hR : BX W (w.heap.size + 1) (.int .i64 0) (.int .i64 0) (.slice none 0 0) (.slice none 0 0) (.int .i64 0) := by
    have h1 := BX.alloc (w.alloc (.cells #[.int .i64 p, .int .i64 n, .slice dP P.length cP, .slice dM M.length cM, .int .i64 k] 26)) 26 (.int .i64 0) (.int .i64 0) (.slice none 0 0) (.slice none 0 0) (.int .i64 0)
    rw [show (w.alloc (.cells #[.int .i64 p, .int .i64 n, .slice dP P.length cP, .slice dM M.length cM, .int .i64 k] 26)).heap.size = w.heap.size + 1 by go_simp] at h1
    rw [hW]
    exact h1
  replace hW := hid hW
  obtain ⟨r, hr⟩ : ∃ r, r = w.heap.size + 1 := ⟨_, rfl⟩
  have hrW : r < W.heap.size := by omega
  have hwr : w.heap.size ≤ r := by omega
  have hwW : w.heap.size ≤ W.heap.size := by omega
  have hw0r : w0.heap.size ≤ r := Nat.le_trans (‹Ext w0 w›).below.size hwr
  rw [← hr] at hR ⊢
  replace hr := hid hr
  have hA' := hA
  obtain ⟨b0, b1, b2, b3, b4, k0, k1, k2, k3, k4⟩ := hA'
  go_wp2_with fail
  refine (hAt.out W (Ext.trans ‹Ext w0 w› eW)).mono ?_
  rintro e wa ⟨t, rfl, ht1, ht2, ea⟩
  clear b0 b1 b2 b3 b4 k0 k1 k2 k3 k4
  have hA2 := hA.ext ea
  obtain ⟨b0, b1, b2, b3, b4, k0, k1, k2, k3, k4⟩ := hA2
  by_cases h0 : 0 ≤ t
  · obtain ⟨j, rfl⟩ : ∃ j : Nat, t = j := ⟨t.toNat, by omega⟩
    have hj : j < P.length := by omega
    go_wp2_with fail
    refine (hHi.out wa (Ext.trans (Ext.trans ‹Ext w0 w› eW) ea) j hj).mono ?_
    rintro e w1 ⟨P', M', h', dP', nP', cP', dM', nM', cM', rfl, s', rP, rM, e1⟩
    unfold cvl
    have hR1 := hR.ext ((Ext.trans ea e1))
    have e01 : Ext w w1 := Ext.trans eW ((Ext.trans ea e1))
    obtain ⟨hZ, eZ, -⟩ := res_store (v0 := .int .i64 p) (v1 := .int .i64 n) (v2 := .slice dP' nP' cP') (v3 := .slice dM' nM' cM') (v4 := .int .i64 h') hR1 e01 hwr
    have rP1 := rf_res (v0 := .int .i64 p) (v1 := .int .i64 n) (v2 := .slice dP' nP' cP') (v3 := .slice dM' nM' cM') (v4 := .int .i64 h') (hi' := w.heap.size) rP hw0r (Nat.lt_of_lt_of_le hrW ea.below.size) (Nat.le_trans hwW ea.below.size)
    have rM1 := rf_res (v0 := .int .i64 p) (v1 := .int .i64 n) (v2 := .slice dP' nP' cP') (v3 := .slice dM' nM' cM') (v4 := .int .i64 h') (hi' := w.heap.size) rM hw0r (Nat.lt_of_lt_of_le hrW ea.below.size) (Nat.le_trans hwW ea.below.size)
    clear b0 b1 b2 b3 b4 k0 k1 k2 k3 k4
    obtain ⟨r0, r1, r2, r3, r4, f0, f1, f2, f3, f4⟩ := hR1
    go_wp2_with fail
    refine bodyPost_ret (res_bx1 rfl rfl hZ) rfl ?_
    exact ⟨P', M', h', dP', nP', cP', dM', nM', cM', rfl, s', rP1, rM1, eZ⟩
  · obtain rfl : t = -1 := by omega
    go_wp2_with fail
    refine (hFa.out wa (Ext.trans (Ext.trans ‹Ext w0 w› eW) ea)).mono ?_
    rintro e w1 ⟨P', M', h', dP', nP', cP', dM', nM', cM', rfl, s', rP, rM, e1⟩
    unfold cvl
    have hR1 := hR.ext ((Ext.trans ea e1))
    have e01 : Ext w w1 := Ext.trans eW ((Ext.trans ea e1))
    obtain ⟨hZ, eZ, -⟩ := res_store (v0 := .int .i64 p) (v1 := .int .i64 n) (v2 := .slice dP' nP' cP') (v3 := .slice dM' nM' cM') (v4 := .int .i64 h') hR1 e01 hwr
    have rP1 := rf_res (v0 := .int .i64 p) (v1 := .int .i64 n) (v2 := .slice dP' nP' cP') (v3 := .slice dM' nM' cM') (v4 := .int .i64 h') (hi' := w.heap.size) rP hw0r (Nat.lt_of_lt_of_le hrW ea.below.size) (Nat.le_trans hwW ea.below.size)
    have rM1 := rf_res (v0 := .int .i64 p) (v1 := .int .i64 n) (v2 := .slice dP' nP' cP') (v3 := .slice dM' nM' cM') (v4 := .int .i64 h') (hi' := w.heap.size) rM hw0r (Nat.lt_of_lt_of_le hrW ea.below.size) (Nat.le_trans hwW ea.below.size)
    clear b0 b1 b2 b3 b4 k0 k1 k2 k3 k4
    obtain ⟨r0, r1, r2, r3, r4, f0, f1, f2, f3, f4⟩ := hR1
    go_wp2_with fail
    refine bodyPost_ret (res_bx1 rfl rfl hZ) rfl ?_
    exact ⟨P', M', h', dP', nP', cP', dM', nM', cM', rfl, s', rP1, rM1, eZ⟩
end Go.Proofs.YtaphnkgjcmneoaaGreatDoor
