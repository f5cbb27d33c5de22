/- The hand of a clock is turned. -/
import Derived.Test.YtaphnkgjcmneoaaGreatDoorCst
namespace Go.Proofs.YtaphnkgjcmneoaaGreatDoor
open Go.RowKit

theorem own_put {w : World} {B e g n m k : Nat} {x : Int} {L : List Int} {R : List Row} (h : Own w B (intRowOf e (.slice (some ⟨g, 0, none⟩) n m) L :: R)) (hn : n = L.length) : Own (w.setCell ⟨g, k, none⟩ (.int .i64 x)) B (intRowOf e (.slice (some ⟨g, 0, none⟩) n m) (L.set k x) :: R) := by
  subst hn
  have h2 := Own.set h k (.int .i64 x)
  rw [← List.map_set] at h2
  unfold intRowOf at *
  rw [List.length_set]
  exact h2
theorem own_nth {w : World} {B e g n m k : Nat} {L : List Int} {R : List Row} (h : Own w B (intRowOf e (.slice (some ⟨g, 0, none⟩) n m) L :: R)) (hn : n = L.length) (hk : k < L.length) : w.cell? ⟨g, k, none⟩ = some (.int .i64 (nth L k)) ∧ w.frozen? ⟨g, k, none⟩ = false := by
  subst hn
  refine ⟨?_, h.frozenAt k⟩
  rw [Own.cellAt h hk]
  simp [nth, hk]
theorem own_low {w : World} {B e g n m : Nat} {L : List Int} {R : List Row} (h : Own w B (intRowOf e (.slice (some ⟨g, 0, none⟩) n m) L :: R)) (hn : n = L.length) : B ≤ g ∧ g < w.heap.size := by
  subst hn
  exact Own.lt h
theorem own_ptr {w : World} {B e n m : Nat} {d : Option Addr} {L : List Int} {R : List Row} (h : Own w B (intRowOf e (.slice d n m) L :: R)) (hn : n = L.length) (h0 : 0 < n) : ∃ g, d = some ⟨g, 0, none⟩ := by
  subst hn
  exact Own.at h h0
/-- the results are stored -/
theorem res_store {w u : World} {r : Nat} {z0 z1 z2 z3 z4 v0 v1 v2 v3 v4 : Value} (h : BX u r z0 z1 z2 z3 z4) (e : Ext w u) (hr : w.heap.size ≤ r) :
    BX (((((u.setCell ⟨r, 0, none⟩ v0).setCell ⟨r, 1, none⟩ v1).setCell ⟨r, 2, none⟩ v2).setCell ⟨r, 3, none⟩ v3).setCell ⟨r, 4, none⟩ v4) r v0 v1 v2 v3 v4 ∧ Ext w (((((u.setCell ⟨r, 0, none⟩ v0).setCell ⟨r, 1, none⟩ v1).setCell ⟨r, 2, none⟩ v2).setCell ⟨r, 3, none⟩ v3).setCell ⟨r, 4, none⟩ v4) ∧
    ∀ (B : Nat) (R : List Row), r < B → Own u B R → Own (((((u.setCell ⟨r, 0, none⟩ v0).setCell ⟨r, 1, none⟩ v1).setCell ⟨r, 2, none⟩ v2).setCell ⟨r, 3, none⟩ v3).setCell ⟨r, 4, none⟩ v4) B R := by
  refine ⟨((((h.set0 v0).set1 v1).set2 v2).set3 v3).set4 v4, @Ext.set _ _ (@Ext.set _ _ (@Ext.set _ _ (@Ext.set _ _ (@Ext.set _ _ e ⟨r, 0, none⟩ hr v0) ⟨r, 1, none⟩ hr v1) ⟨r, 2, none⟩ hr v2) ⟨r, 3, none⟩ hr v3) ⟨r, 4, none⟩ hr v4, fun B R hB o => ?_⟩
  exact ((((o.setBelow (p := ⟨r, 0, none⟩) hB v0).setBelow (p := ⟨r, 1, none⟩) hB v1).setBelow (p := ⟨r, 2, none⟩) hB v2).setBelow (p := ⟨r, 3, none⟩) hB v3).setBelow (p := ⟨r, 4, none⟩) hB v4
theorem res_other {u : World} {r c : Nat} {z0 z1 z2 z3 z4 v0 v1 v2 v3 v4 : Value} (h : BX u r z0 z1 z2 z3 z4) (hn : c ≠ r) :
    BX (((((u.setCell ⟨c, 0, none⟩ v0).setCell ⟨c, 1, none⟩ v1).setCell ⟨c, 2, none⟩ v2).setCell ⟨c, 3, none⟩ v3).setCell ⟨c, 4, none⟩ v4) r z0 z1 z2 z3 z4 :=
  ((((h.other (p := ⟨c, 0, none⟩) hn v0).other (p := ⟨c, 1, none⟩) hn v1).other (p := ⟨c, 2, none⟩) hn v2).other (p := ⟨c, 3, none⟩) hn v3).other (p := ⟨c, 4, none⟩) hn v4
/-- how many numbers of a block are one -/
def onesB (w : World) (g n : Nat) : Nat := ((List.range n).map fun j => intOf ((w.cell? ⟨g, j, none⟩).getD undef)).count 1
theorem onesB_own {w : World} {B e g n m : Nat} {L : List Int} {R : List Row} (h : Own w B (intRowOf e (.slice (some ⟨g, 0, none⟩) n m) L :: R)) (hn : n = L.length) : onesB w g n = L.count 1 := by
  unfold onesB
  congr 1
  apply List.ext_getElem
  · simp [hn]
  · intro i h1 h2
    rw [List.getElem_map, List.getElem_range, (own_nth h hn h2).1]
    simp [nth, h2, intOf]
theorem ones_set {L : List Int} {k : Nat} (hk : k < L.length) (h1 : nth L k = 1) : (L.set k 0).count 1 < L.count 1 := by
  have h2 : L[k] = 1 := by simpa [nth, hk] using h1
  have h3 : 1 ∈ L := h2 ▸ List.getElem_mem hk
  have h4 : 0 < L.count 1 := List.count_pos_iff.2 h3
  rw [List.count_set hk, h2]
  simp
  omega
set_option maxHeartbeats 3200000 in
theorem l4Turn_any {p : Int} {k : Nat} {M : List Int} {dP dM : Option Addr} {nP cP cM : Nat} {w0 w : World} [Ext w0 w] (hM : IsInts w0 (.slice dM M.length cM) M) (hk : k < M.length) (hl : M.length ≤ 6) (h01 : ∀ x ∈ M, 0 ≤ x ∧ x ≤ 1) :
    Calls Tryz.prog 123 #[.agg #[.int .i64 p, .int .i64 M.length, .slice dP nP cP, .slice dM M.length cM, .int .i64 k]] w fun e w' => ∃ (g m k' : Nat) (M' : List Int), e = .returned (.agg #[.int .i64 p, .int .i64 M.length, .slice dP nP cP, .slice (some ⟨g, 0, none⟩) M.length m, .int .i64 k']) ∧ M'.length = M.length ∧ (∀ x ∈ M', 0 ≤ x ∧ x ≤ 1) ∧ k' < M.length ∧ Own w' w.heap.size [intRowOf 3 (.slice (some ⟨g, 0, none⟩) M.length m) M'] ∧ Ext w w' := by
  have hO2 := hid (fun (u : World) (e : Ext w0 u) => @l1Own_any _ M w0 u e hM)
  obtain ⟨n, hn⟩ : ∃ n, n = M.length := ⟨_, rfl⟩
  rw [← hn] at hO2 hk hl ⊢
  replace hn := hid hn
  obtain ⟨W, hW⟩ : ∃ W, W = (w.alloc (.cells #[.int .i64 p, .int .i64 n, .slice dP nP cP, .slice dM n cM, .int .i64 k] 26)).alloc (.cells #[.int .i64 0, .int .i64 0, .slice none 0 0, .slice none 0 0, .int .i64 0] 26) := ⟨_, rfl⟩
  go_enter Tryz.func123, Tryz.ntmps123
  go_upto_region 1 with fail
  rw [← hW]
  have eW : Ext w W := by rw [hW]; infer_instance
  have hWs : W.heap.size = w.heap.size + 2 := by rw [hW]; go_simp
  have hA : BX W w.heap.size (.int .i64 p) (.int .i64 n) (.slice dP nP cP) (.slice dM n cM) (.int .i64 k) := by
    rw [hW]
    exact (BX.alloc w 26 (.int .i64 p) (.int .i64 n) (.slice dP nP cP) (.slice dM n cM) (.int .i64 k)).ext inferInstance
  have hRB : BX W (w.heap.size + 1) (.int .i64 0) (.int .i64 0) (.slice none 0 0) (.slice none 0 0) (.int .i64 0) := by
    have h1 := BX.alloc (w.alloc (.cells #[.int .i64 p, .int .i64 n, .slice dP nP cP, .slice dM n cM, .int .i64 k] 26)) 26 (.int .i64 0) (.int .i64 0) (.slice none 0 0) (.slice none 0 0) (.int .i64 0)
    rw [show (w.alloc (.cells #[.int .i64 p, .int .i64 n, .slice dP nP cP, .slice dM n cM, .int .i64 k] 26)).heap.size = w.heap.size + 1 by go_simp] at h1
    rw [hW]
    exact h1
  replace hW := hid hW
  obtain ⟨V, hV⟩ : ∃ V, V = W.alloc (.cells #[.int .i64 p, .int .i64 n, .slice dP nP cP, .slice dM n cM, .int .i64 k] 26) := ⟨_, rfl⟩
  have eV : Ext W V := by rw [hV]; infer_instance
  have hB0 : BX V (w.heap.size + 2) (.int .i64 p) (.int .i64 n) (.slice dP nP cP) (.slice dM n cM) (.int .i64 k) := by rw [hV, ← hWs]; exact BX.alloc _ _ _ _ _ _ _
  have hVs : V.heap.size = w.heap.size + 3 := by rw [hV]; go_simp
  have hA1 := hA.ext eV
  have hR1 := hRB.ext eV
  have xV : Ext w0 V := Ext.trans ‹Ext w0 w› (Ext.trans eW eV)
  obtain ⟨b0, b1, b2, b3, b4, k0, k1, k2, k3, k4⟩ := hA
  go_upto_region 2 with fail
  rw [← hV]
  replace hV := hid hV
  replace hWs := hid hWs
  clear b0 b1 b2 b3 b4 k0 k1 k2 k3 k4 hRB
  have hA1' := hA1
  obtain ⟨b0, b1, b2, b3, b4, k0, k1, k2, k3, k4⟩ := hA1'
  go_wp2_with fail
  refine (hO2.out V xV).mono ?_
  rintro e w1 ⟨d1, m1, rfl, own1, e1⟩
  obtain ⟨g, hg⟩ : ∃ g, d1 = some ⟨g, 0, none⟩ := own_ptr own1 hn.out (by omega)
  subst hg
  obtain ⟨c, hc⟩ : ∃ c, c = w.heap.size + 2 := ⟨_, rfl⟩
  rw [← hc] at hB0 ⊢
  have hcV : c < V.heap.size := by omega
  have hwc : w.heap.size ≤ c := by omega
  have hca : c ≠ w.heap.size := by omega
  have hcr : c ≠ w.heap.size + 1 := by omega
  replace hc := hid hc
  have hB1 := hB0.ext e1
  have hA2 := hA1.ext e1
  have hR2 := hR1.ext e1
  obtain ⟨U, hU⟩ : ∃ U, U = w1.setCell ⟨c, 3, none⟩ (.slice (some ⟨g, 0, none⟩) n m1) := ⟨_, rfl⟩
  have hB2 := hB1.set3 (.slice (some ⟨g, 0, none⟩) n m1)
  have hA3 := hA2.other (p := ⟨c, 3, none⟩) hca (.slice (some ⟨g, 0, none⟩) n m1)
  have hR3 := hR2.other (p := ⟨c, 3, none⟩) hcr (.slice (some ⟨g, 0, none⟩) n m1)
  have own2 := own1.setBelow (p := ⟨c, 3, none⟩) hcV (.slice (some ⟨g, 0, none⟩) n m1)
  have eU : Ext w (w1.setCell ⟨c, 3, none⟩ (.slice (some ⟨g, 0, none⟩) n m1)) := @Ext.set _ _ (Ext.trans (Ext.trans eW eV) e1) ⟨c, 3, none⟩ hwc _
  rw [← hU] at hB2 hA3 hR3 own2 eU
  clear b0 b1 b2 b3 b4 k0 k1 k2 k3 k4
  obtain ⟨b0, b1, b2, b3, b4, k0, k1, k2, k3, k4⟩ := hB1
  go_upto_region 3 with fail
  rw [← hU]
  replace hU := hid hU
  clear b0 b1 b2 b3 b4 k0 k1 k2 k3 k4 hB0 hA1 hR1 hA2 hR2
  obtain ⟨a, ha⟩ : ∃ a, a = w.heap.size := ⟨_, rfl⟩
  obtain ⟨r, hr⟩ : ∃ r, r = w.heap.size + 1 := ⟨_, rfl⟩
  obtain ⟨Q, hQ⟩ : ∃ Q, Q = V.heap.size := ⟨_, rfl⟩
  rw [← hQ] at own2 hcV hVs
  rw [← ha] at hA3
  rw [← hr] at hR3 ⊢
  rw [← ha] at hwc hca hcr hr ⊢
  rw [← hr] at hcr
  have har : a ≠ r := by omega
  have hrQ0 : r < Q := by omega
  replace hr := hid hr
  replace ha := hid ha
  replace hQ := hid hQ
  go_loopw [] (fun wr => ∃ (k' : Nat) (M' : List Int), M'.length = n ∧ (∀ x ∈ M', 0 ≤ x ∧ x ≤ 1) ∧ k' < n ∧ Own wr Q [intRowOf 3 (.slice (some ⟨g, 0, none⟩) n m1) M'] ∧ BX wr c (.int .i64 p) (.int .i64 n) (.slice dP nP cP) (.slice (some ⟨g, 0, none⟩) n m1) (.int .i64 k') ∧ BX wr a (.int .i64 p) (.int .i64 n) (.slice dP nP cP) (.slice dM n cM) (.int .i64 k) ∧ BX wr r (.int .i64 0) (.int .i64 0) (.slice none 0 0) (.slice none 0 0) (.int .i64 0) ∧ Ext w wr) (fun wr => onesB wr g n)
  case atStart => exact ⟨k, M, hn.out.symm, h01, hk, own2, hB2, hA3, hR3, eU⟩
  case round =>
    obtain ⟨k', M', hl', h01', hk', own, hC, hA, hR, he⟩ := hrel
    obtain ⟨wo, rfl⟩ : ∃ y : World, y = wr := ⟨_, rfl⟩
    clear own2 hB2 hA3 hR3
    have hgl := own_low own hl'.symm
    obtain ⟨x0, x0'⟩ := own_nth own hl'.symm (k := k') (by omega)
    have hcQ : c ≠ g := by omega
    have haQ : a ≠ g := by omega
    have hrQ : r ≠ g := by omega
    have hC0 := hC
    have hA0 := hA
    obtain ⟨o0, o1, o2, o3, o4, -, -, -, -, of4⟩ := hC
    obtain ⟨-, a1, -, -, -, -, -, -, -, -⟩ := hA
    by_cases hx : nth M' k' = 1
    · have hx' : (nth M' k' == 1) = true := beq_iff_eq.2 hx
      have hlt := ones_set (L := M') (k := k') (by omega) hx
      replace hx := hid hx
      go_upto_region 5 with fail
      have own2 := own_put (k := k') (x := 0) own hl'.symm
      have hC2 := hC0.other (p := ⟨g, k', none⟩) (Ne.symm hcQ) (.int .i64 0)
      have hA2 := hA0.other (p := ⟨g, k', none⟩) (Ne.symm haQ) (.int .i64 0)
      have hR2 := hR.other (p := ⟨g, k', none⟩) (Ne.symm hrQ) (.int .i64 0)
      have e2 : Ext w (wo.setCell ⟨g, k', none⟩ (.int .i64 0)) := @Ext.set _ _ he ⟨g, k', none⟩ (show w.heap.size ≤ g by have := ha.out; omega) _
      have hon := onesB_own own hl'.symm
      obtain ⟨w2, hw2⟩ : ∃ w2, w2 = wo.setCell ⟨g, k', none⟩ (.int .i64 0) := ⟨_, rfl⟩
      rw [← hw2] at own2 hC2 hA2 hR2 e2 ⊢
      clear x0 x0' o0 o1 o2 o3 o4 of4 a1
      replace hw2 := hid hw2
      have hC3 := hC2
      have hA3 := hA2
      obtain ⟨o0, o1, o2, o3, o4, -, -, -, -, of4⟩ := hC2
      obtain ⟨-, a1, -, -, -, -, -, -, -, -⟩ := hA2
      have hmod : ((k' : Int) + 1).tmod (n : Int) = ((((k' + 1) % n : Nat)) : Int) := by
        rw [show ((k' : Int) + 1) = ((k' + 1 : Nat) : Int) by omega]
        rfl
      obtain ⟨q, hq⟩ : ∃ q, q = (k' + 1) % n := ⟨_, rfl⟩
      have hqn : q < n := by rw [hq]; exact Nat.mod_lt _ (by omega)
      rw [← hq] at hmod
      replace hq := hid hq
      have own3 := own2.setBelow (p := ⟨c, 4, none⟩) hcV (.int .i64 q)
      go_wp2_with fail
      go_roundw
      case rel => exact ⟨q, M'.set k' 0, by rw [List.length_set]; exact hl', (by
        intro x hx
        rcases List.mem_or_eq_of_mem_set hx with hx | rfl
        · exact h01' x hx
        · omega), hqn, own3, hC3.set4 _, hA3.other (p := ⟨c, 4, none⟩) hca _, hR2.other (p := ⟨c, 4, none⟩) hcr _, @Ext.set _ _ e2 ⟨c, 4, none⟩ (show w.heap.size ≤ c by have := ha.out; omega) _⟩
      case measure =>
        rw [onesB_own own3 (by rw [List.length_set]; exact hl'.symm), hon]
        exact hlt
    · have hx' : (nth M' k' == 1) = false := beq_eq_false_iff_ne.2 hx
      replace hx := hid hx
      have har2 : w.heap.size ≤ r := by have := ha.out; have := hr.out; omega
      obtain ⟨hZ, eZ, oZ⟩ := res_store (v0 := .int .i64 p) (v1 := .int .i64 n) (v2 := .slice dP nP cP) (v3 := .slice (some ⟨g, 0, none⟩) n m1) (v4 := .int .i64 k') hR he har2
      obtain ⟨r0, r1, r2, r3, r4, f0, f1, f2, f3, f4⟩ := hR
      go_wp2_with fail
      refine bodyPost_ret (res_bx1 rfl rfl hZ) rfl ?_
      exact ⟨g, m1, k', M', rfl, hl', h01', hk', (oZ _ _ hrQ0 own).mono (by have := ha.out; omega), eZ⟩
end Go.Proofs.YtaphnkgjcmneoaaGreatDoor
