/- 'laws.FnGrowth': for every code the law returns true. -/
import Derived.Test.YtmgcfnciejfpbaaGreatQGrM
import Derived.Test.YtmgcfnciejfpbaaGreatQMtU
import Derived.Test.YtmgcfnciejfpbaaGreatQGwW
import Derived.Test.YtmgcfnciejfpbaaGreatQGwG
import Derived.Test.YtmgcfnciejfpbaaGreatQWkJ
import Derived.Test.YtmgcfnciejfpbaaGreatQCut
namespace Go.Proofs.YtmgcfnciejfpbaaGreat
open Go.RowKit

theorem wo_in {M : List (List Int)} {k : Int} {ws c : List Int} : 0 ≤ woR M k ws c ∧ woR M k ws c ≤ 99999 := by
  rw [woR]
  split
  · rename_i h
    simp only [woB, Bool.and_eq_true, decide_eq_true_eq] at h
    obtain ⟨h1, h2, h3⟩ := h
    simp only [iwB, Bool.and_eq_true] at h1
    obtain ⟨_, hk1, hk3⟩ := askB_iff.1 h1.1
    have hm := wo_mem (k := k.toNat) h2 (by omega)
    have := (work_good h1.2).2 _ (atR_lt hm).1
    omega
  · omega
set_option maxHeartbeats 800000 in
set_option maxRecDepth 100000 in
theorem drawGW_any {w0 w : World} [Ext w0 w] {vc : Value} {nb : Nat} (hc : IsBytes w0 vc nb) :
    Calls Tryz.prog 56 #[vc] w (SWPost w) := by
  have hc' := hc
  obtain ⟨ac, cc, rfl⟩ := hc.form
  go_enter Tryz.func56, Tryz.ntmps56
  go_upto_region 1 with fail
  have e1 : Ext w (w.alloc (.cells #[.slice none 0 0] 26)) := inferInstance
  have r0 : (w.alloc (.cells #[.slice none 0 0] 26)).cell? ⟨w.heap.size, 0, none⟩ = some (.slice none 0 0) := by go_simp
  have rf : (w.alloc (.cells #[.slice none 0 0] 26)).frozen? ⟨w.heap.size, 0, none⟩ = false := by go_simp
  have hsz : w.heap.size < (w.alloc (.cells #[.slice none 0 0] 26)).heap.size := by simp
  generalize w.alloc (.cells #[.slice none 0 0] 26) = w1 at *
  have e01 : Ext w0 w1 := Ext.trans ‹Ext w0 w› e1
  go_wp2_with fail
  refine (drawSW_any (w0 := w0) (w := w1) hc').mono ?_
  rintro e w2 ⟨d, m, u, M, k, ws, x, Z, rfl, hM, hk1, hk2, hwl, hx1, hx2, own2, hZ, e2⟩
  have r2 := e2.cell r0
  have rf2 := e2.frozen r0 rf
  have hs1 : w.heap.size < w1.heap.size := hsz
  have own3 := (own2.setBelow (p := ⟨w.heap.size, 0, none⟩) hs1 (.slice d M.length m)).mono (Nat.le_of_lt hs1)
  have y0 : (w2.setCell ⟨w.heap.size, 0, none⟩ (.slice d M.length m)).cell? ⟨w.heap.size, 0, none⟩ = some (.slice d M.length m) := by go_simp
  have e3 : Ext w (w2.setCell ⟨w.heap.size, 0, none⟩ (.slice d M.length m)) := ⟨(Ext.trans e1 e2).below.setCell (Nat.le_refl _) _⟩
  clear own2
  go_wp2_with fail
  refine bodyPost_ret (v := .tuple #[.agg #[.slice d M.length m], .int .i64 k, u, .int .i64 x]) (by simp [results, Tryz.results56, go_sem, y0]) rfl ?_
  exact ⟨d, m, u, M, k, ws, x, Z, rfl, hM, hk1, hk2, hwl, hx1, hx2, own3, hZ, e3⟩
set_option maxHeartbeats 6400000 in
set_option maxRecDepth 100000 in
theorem lawFnGrowth_any {v : Value} {nb : Nat} {w : World} (hc : IsCode w v nb) :
    Calls Tryz.prog 9 #[v] w fun e w' => e = .returned (.bool true) ∧ Ext w w' := by
  have hc' := hc.bytes
  obtain ⟨ac, cc, rfl⟩ := hc'.form
  by_cases hbig : 65536 < nb
  · have hd := hid (decide_eq_true hbig)
    go_enter Tryz.func9, Tryz.ntmps9
    go_wp2_with fail
    refine (vBig_l hc').mono ?_
    rw [hd.out]
    rintro e w1 ⟨rfl, rfl⟩
    go_wp2_with fail
    go_ret
    exact ⟨rfl, Ext.refl _⟩
  · have hd := hid (decide_eq_false hbig)
    go_enter Tryz.func9, Tryz.ntmps9
    go_wp2_with fail
    refine (vBig_l hc').mono ?_
    rw [hd.out]
    rintro e w1 ⟨rfl, rfl⟩
    go_wp2_with fail
    refine (drawGW_any (w0 := w) (w := w) hc').mono ?_
    rintro e w1 ⟨f1, c1, u1, M1, k1, ws1, r1, Z1, rfl, hMok1, hk11, hk12, hwl1, hr11, hr12, ownZ1, hZ1, e1⟩
    obtain ⟨hm1, hws1⟩ := hZ1.out _ _ ownZ1
    obtain ⟨du1, mu1, rfl, lu1⟩ := hws1.form
    clear hZ1 ownZ1
    go_upto_region 4 with fail
    have gb1 : Ext w1 (w1.alloc (.cells #[.slice f1 M1.length c1] 26)) := inferInstance
    have xb1 : (w1.alloc (.cells #[.slice f1 M1.length c1] 26)).cell? ⟨w1.heap.size, 0, none⟩ = some (.slice f1 M1.length c1) := by go_simp
    obtain ⟨p1, hp1⟩ : ∃ r, r = w1.heap.size := ⟨_, rfl⟩
    rw [← hp1] at xb1 ⊢
    replace hp1 := hid hp1
    generalize w1.alloc (.cells #[.slice f1 M1.length c1] 26) = w2 at *
    obtain ⟨G1, hG1⟩ : ∃ q, q = gwR M1 k1 ws1 r1 := ⟨_, rfl⟩
    obtain ⟨S1, hS1⟩ : ∃ q, q = stB M1 k1 ws1 r1 := ⟨_, rfl⟩
    obtain ⟨F1, hF1⟩ : ∃ q, q = fcR M1 k1 ws1 r1 := ⟨_, rfl⟩
    obtain ⟨V1, hV1⟩ : ∃ q, q = givB M1 k1 ws1 r1 := ⟨_, rfl⟩
    replace hG1 := hid hG1
    replace hS1 := hid hS1
    replace hF1 := hid hF1
    replace hV1 := hid hV1
    go_wp2_with fail
    with_reducible refine (implGrowth_any (w0 := w1) (w := w2) hm1 hws1).mono ?_
    rw [← hG1.out, ← hS1.out]
    rintro e w3 ⟨rfl, e3⟩
    have xb3 := e3.cell xb1
    have g3 : Ext w1 w3 := Ext.trans gb1 e3
    clear xb1
    go_wp2_with fail
    with_reducible refine (specGrowth_any (w0 := w1) (w := w3) hm1 hws1).mono ?_
    rw [← hG1.out, ← hS1.out]
    rintro e w4 ⟨rfl, e4⟩
    have xb4 := e4.cell xb3
    have g4 : Ext w1 w4 := Ext.trans g3 e4
    clear xb3
    go_wp2_with fail
    with_reducible refine (implFar_any (w0 := w1) (w := w4) hm1 hws1).mono ?_
    rw [← hF1.out, ← hV1.out]
    rintro e w5 ⟨n1, rfl, hn1, e5⟩
    obtain ⟨dn1, mn1, rfl, ln1⟩ := hn1.form
    have xb5' := e5.cell xb4
    have g5 : Ext w1 w5 := Ext.trans g4 e5
    clear xb4
    go_wp2_with fail
    with_reducible refine (specFar_any (w0 := w1) (w := w5) hm1 hws1).mono ?_
    rw [← hF1.out, ← hV1.out]
    rintro e w6 ⟨n2, rfl, hn2, e6⟩
    obtain ⟨dn2, mn2, rfl, ln2⟩ := hn2.form
    have g6 : Ext w1 w6 := Ext.trans g5 e6
    have hn1 := hn1.ext (w' := w6)
    clear xb5' hm1 hws1 hG1 hS1 hF1 hV1
    have q1 : (S1 != S1) = false := by simp
    have q2 : (G1 != G1) = false := by simp
    have q3 : (V1 != V1) = false := by simp
    go_wp2_with fail
    with_reducible refine (vInts_same (w0 := w6) (w := w6) hn1 hn2).mono ?_
    rintro e w7 ⟨rfl, e7⟩
    have g7 : Ext w1 w7 := Ext.trans g6 e7
    have gw7 : Ext w w7 := Ext.trans e1 g7
    clear q1 q2 q3 hn1 hn2
    go_wp2_with fail
    refine (vCut_any (w0 := w) (w := w7) (n := 1) hc (by omega) (by omega)).mono ?_
    rintro e w21 ⟨cv5, nc5, rfl, hcb5, e21⟩
    obtain ⟨a5', c5', rfl⟩ := hcb5.form
    go_wp2_with fail
    refine (drawWL_any (w0 := w21) (w := w21) hcb5).mono ?_
    rintro e w22 ⟨f5, c5, bv, xv, M5, b, X, Z5, rfl, hMok5, hbl5, hXl5, ownZ5, hZ5, e22⟩
    obtain ⟨hm5, hb5, hX5⟩ := hZ5.out _ _ ownZ5
    obtain ⟨db, mb, rfl, lb⟩ := hb5.form
    obtain ⟨dX, mX, rfl, lX⟩ := hX5.form
    have g22 : Ext w1 w22 := Ext.trans g7 (Ext.trans e21 e22)
    clear hZ5 ownZ5 hcb5
    go_upto_region 11 with fail
    have gb5 : Ext w22 (w22.alloc (.cells #[.slice f5 M5.length c5] 26)) := inferInstance
    have xb5 : (w22.alloc (.cells #[.slice f5 M5.length c5] 26)).cell? ⟨w22.heap.size, 0, none⟩ = some (.slice f5 M5.length c5) := by go_simp
    obtain ⟨p5, hp5⟩ : ∃ r, r = w22.heap.size := ⟨_, rfl⟩
    rw [← hp5] at xb5 ⊢
    replace hp5 := hid hp5
    generalize w22.alloc (.cells #[.slice f5 M5.length c5] 26) = w23 at *
    go_wp2_with fail
    with_reducible refine (implLists_any (w0 := w22) (w := w23) hm5 hb5 hX5).mono ?_
    rintro e w24 ⟨uL, rfl, hL, e24⟩
    obtain ⟨dL, mL, rfl, lL⟩ := hL.form
    have x5_24 := e24.cell xb5
    have g2224 : Ext w22 w24 := Ext.trans gb5 e24
    have g24 : Ext w1 w24 := Ext.trans g22 g2224
    clear xb5
    cases hQ5 : srvB M5 b X with
    | false =>
      generalize wlR M5 b X = L at *
      replace hQ5 := hid hQ5
      go_wp2_with fail
      go_loopw [20, 21, 22, 23, 24, 25, 26, 27, 28] (fun t _ _ _ _ _ _ _ _ wr => t = .int .i64 0 ∧ Ext w24 wr) (fun _ _ _ _ _ _ _ _ _ _ => 0)
      case atStart => exact ⟨rfl, Ext.refl _⟩
      case round =>
        obtain ⟨rfl, hy⟩ := hrel
        go_wp2_with fail
        go_ret
        exact ⟨rfl, Ext.trans e1 (Ext.trans g24 hy)⟩
    | true =>
      have hLl := (wl_all hQ5).1
      have hgw := hid (fun (i : Nat) (hi : i < X.length) => gw_law hQ5 hi)
      generalize wlR M5 b X = L at *
      replace hQ5 := hid hQ5
      obtain ⟨bL, oL, dl0, ml0, hdL, _, _, _⟩ := hL.at (w' := w24) (k := 0) (by omega)
      subst hdL
      have hLlid := hid hLl
      clear hLl
      go_wp2_with fail
      go_loopw [20, 21, 22, 23, 24, 25, 26, 27, 28] (fun tv _ _ _ _ _ _ _ _ wr => ∃ t : Nat, t ≤ X.length ∧ tv = .int .i64 t ∧ Ext w24 wr) (fun tv _ _ _ _ _ _ _ _ _ => X.length - (intOf tv).toNat)
      case atStart => exact ⟨0, by omega, rfl, Ext.refl _⟩
      case round =>
        obtain ⟨t, ht, rfl, hy⟩ := hrel
        obtain ⟨wq, rfl⟩ : ∃ y : World, y = wr := ⟨_, rfl⟩
        by_cases hlt : t < X.length
        · have htL : t < L.length := by have := hLlid.out; omega
          have htL2 : t + 1 < L.length := by have := hLlid.out; omega
          obtain ⟨bL', oL', dl, ml, hdL', hcl, hil, hEl⟩ := hL.at (w' := wq) htL
          cases hdL'
          obtain ⟨bL', oL', dl2, ml2, hdL2, hcl2, hil2, hEl2⟩ := hL.at (w' := wq) htL2
          cases hdL2
          obtain ⟨bX, oX, hdX, hcX⟩ := hX5.at (e := Ext.trans g2224 hy) (w' := wq) hlt
          subst hdX
          obtain ⟨F, hfc, hwo1, hwo2, hgr⟩ := hgw.out t hlt
          obtain ⟨E, hE⟩ : ∃ q, q = row L t := ⟨_, rfl⟩
          rw [← hE] at hcl hil hEl hfc hwo1 hgr
          obtain ⟨E2, hE2⟩ : ∃ q, q = row L (t + 1) := ⟨_, rfl⟩
          rw [← hE2] at hcl2 hil2 hEl2 hwo2 hgr
          obtain ⟨r5, hr5⟩ : ∃ q, q = nth X t := ⟨_, rfl⟩
          rw [← hr5] at hcX hfc hgr
          have v1b := wo_in (M := M5) (k := b.length) (ws := E) (c := F)
          have v2b := wo_in (M := M5) (k := b.length) (ws := E2) (c := F)
          obtain ⟨v1, hv1⟩ : ∃ q, q = woR M5 b.length E F := ⟨_, rfl⟩
          obtain ⟨v2, hv2⟩ : ∃ q, q = woR M5 b.length E2 F := ⟨_, rfl⟩
          obtain ⟨g5, hg5⟩ : ∃ q, q = gwR M5 b.length E r5 := ⟨_, rfl⟩
          rw [← hv1, ← hv2, ← hg5] at hgr
          rw [← hv1] at v1b
          rw [← hv2] at v2b
          obtain ⟨B5, hB5⟩ : ∃ q, q = givB M5 b.length E r5 := ⟨_, rfl⟩
          obtain ⟨T5, hT5⟩ : ∃ q, q = stB M5 b.length E r5 := ⟨_, rfl⟩
          have hsub : IntKind.i64.wrap (v2 - v1) = g5 := by rw [← hgr]; exact IntWalk.i64_in _ (by omega)
          have hne : (g5 != g5) = false := by simp
          replace hE := hid hE
          replace hE2 := hid hE2
          replace hr5 := hid hr5
          replace hv1 := hid hv1
          replace hv2 := hid hv2
          replace hg5 := hid hg5
          replace hB5 := hid hB5
          replace hT5 := hid hT5
          replace hfc := hid hfc
          replace hwo1 := hid hwo1
          replace hwo2 := hid hwo2
          replace hgr := hid hgr
          have hX0 := hid (show wq.cell? ⟨p5, 0, none⟩ = some (.slice f5 M5.length c5) ∧ wq.cell? ⟨bL, oL + t, none⟩ = some (.slice dl E.length ml) ∧ wq.cell? ⟨bX, oX + t, none⟩ = some (.int .i64 r5) ∧ wq.cell? ⟨bL, oL + (t + 1), none⟩ = some (.slice dl2 E2.length ml2) from ⟨hy.cell x5_24, hcl, hcX, hcl2⟩)
          clear hcl hcX hcl2
          go_upto_region 15 with fail
          have hSx := hid (show ∀ u, Ext wq u → u.cell? ⟨p5, 0, none⟩ = some (.slice f5 M5.length c5) ∧ u.cell? ⟨bL, oL + t, none⟩ = some (.slice dl E.length ml) ∧ u.cell? ⟨bX, oX + t, none⟩ = some (.int .i64 r5) ∧ u.cell? ⟨bL, oL + (t + 1), none⟩ = some (.slice dl2 E2.length ml2) from fun u e => ⟨e.cell hX0.out.1, e.cell hX0.out.2.1, e.cell hX0.out.2.2.1, e.cell hX0.out.2.2.2⟩)
          refine region_held_from (w0 := wq) (S := fun u => u.cell? ⟨p5, 0, none⟩ = some (.slice f5 M5.length c5) ∧ u.cell? ⟨bL, oL + t, none⟩ = some (.slice dl E.length ml) ∧ u.cell? ⟨bX, oX + t, none⟩ = some (.int .i64 r5) ∧ u.cell? ⟨bL, oL + (t + 1), none⟩ = some (.slice dl2 E2.length ml2)) (by kernel_rfl) hSx.out (fun wz ez hHeld0 => ?_)
          refine wpAnyH_take (i := 0) (v := .agg #[.slice f5 M5.length c5]) rfl (by kernel_rfl) (by kernel_rfl) (by kernel_rfl) (fun _ _ _ h => h) (Or.inl ⟨by rfl, by intro wx hx; obtain ⟨_, _, _, _⟩ := hx; go_simp⟩) (by assumption) ?_
          try simp only [List.getElem_toArray, List.getElem_cons_zero, Act.put, List.setIfInBounds_toArray, List.set_cons_zero, List.set_cons_succ]
          refine wpAnyH_take (i := 1) (v := .slice db b.length mb) rfl (by kernel_rfl) (by kernel_rfl) (by kernel_rfl) (fun _ _ _ h => h) (Or.inl ⟨by rfl, by intro wx hx; go_simp⟩) (by assumption) ?_
          try simp only [List.getElem_toArray, List.getElem_cons_succ, List.getElem_cons_zero, Act.put, List.setIfInBounds_toArray, List.set_cons_zero, List.set_cons_succ]
          refine wpAnyH_take (i := 2) (v := .int .i64 b.length) rfl (by kernel_rfl) (by kernel_rfl) (by kernel_rfl) (fun _ _ _ h => h) (Or.inl ⟨by rfl, by intro wx hx; go_simp⟩) (by assumption) ?_
          try simp only [List.getElem_toArray, List.getElem_cons_succ, List.getElem_cons_zero, Act.put, List.setIfInBounds_toArray, List.set_cons_zero, List.set_cons_succ]
          refine wpAnyH_take (i := 3) (v := .slice (some ⟨bL, oL, none⟩) L.length mL) rfl (by kernel_rfl) (by kernel_rfl) (by kernel_rfl) (fun _ _ _ h => h) (Or.inl ⟨by rfl, by intro wx hx; go_simp⟩) (by assumption) ?_
          try simp only [List.getElem_toArray, List.getElem_cons_succ, List.getElem_cons_zero, Act.put, List.setIfInBounds_toArray, List.set_cons_zero, List.set_cons_succ]
          refine wpAnyH_take (i := 4) (v := .int .i64 t) rfl (by kernel_rfl) (by kernel_rfl) (by kernel_rfl) (fun _ _ _ h => h) (Or.inl ⟨by rfl, by intro wx hx; go_simp⟩) (by assumption) ?_
          try simp only [List.getElem_toArray, List.getElem_cons_succ, List.getElem_cons_zero, Act.put, List.setIfInBounds_toArray, List.set_cons_zero, List.set_cons_succ]
          refine wpAnyH_take (i := 5) (v := .pointer (some ⟨bL, oL + t, none⟩)) rfl (by kernel_rfl) (by kernel_rfl) (by kernel_rfl) (fun _ _ _ h => h) (Or.inl ⟨by rfl, by intro wx hx; go_simp⟩) (by assumption) ?_
          try simp only [List.getElem_toArray, List.getElem_cons_succ, List.getElem_cons_zero, Act.put, List.setIfInBounds_toArray, List.set_cons_zero, List.set_cons_succ]
          refine wpAnyH_take (i := 6) (v := .slice dl E.length ml) rfl (by kernel_rfl) (by kernel_rfl) (by kernel_rfl) (fun _ _ _ h => h) (Or.inl ⟨by rfl, by intro wx hx; obtain ⟨_, _, _, _⟩ := hx; go_simp⟩) (by assumption) ?_
          try simp only [List.getElem_toArray, List.getElem_cons_succ, List.getElem_cons_zero, Act.put, List.setIfInBounds_toArray, List.set_cons_zero, List.set_cons_succ]
          refine wpAnyH_take (i := 7) (v := .slice (some ⟨bX, oX, none⟩) X.length mX) rfl (by kernel_rfl) (by kernel_rfl) (by kernel_rfl) (fun _ _ _ h => h) (Or.inl ⟨by rfl, by intro wx hx; go_simp⟩) (by assumption) ?_
          try simp only [List.getElem_toArray, List.getElem_cons_succ, List.getElem_cons_zero, Act.put, List.setIfInBounds_toArray, List.set_cons_zero, List.set_cons_succ]
          refine wpAnyH_take (i := 8) (v := .int .i64 t) rfl (by kernel_rfl) (by kernel_rfl) (by kernel_rfl) (fun _ _ _ h => h) (Or.inl ⟨by rfl, by intro wx hx; go_simp⟩) (by assumption) ?_
          try simp only [List.getElem_toArray, List.getElem_cons_succ, List.getElem_cons_zero, Act.put, List.setIfInBounds_toArray, List.set_cons_zero, List.set_cons_succ]
          refine wpAnyH_take (i := 9) (v := .pointer (some ⟨bX, oX + t, none⟩)) rfl (by kernel_rfl) (by kernel_rfl) (by kernel_rfl) (fun _ _ _ h => h) (Or.inl ⟨by rfl, by intro wx hx; go_simp⟩) (by assumption) ?_
          try simp only [List.getElem_toArray, List.getElem_cons_succ, List.getElem_cons_zero, Act.put, List.setIfInBounds_toArray, List.set_cons_zero, List.set_cons_succ]
          refine wpAnyH_take (i := 10) (v := .int .i64 r5) rfl (by kernel_rfl) (by kernel_rfl) (by kernel_rfl) (fun _ _ _ h => h) (Or.inl ⟨by rfl, by intro wx hx; obtain ⟨_, _, _, _⟩ := hx; go_simp⟩) (by assumption) ?_
          try simp only [List.getElem_toArray, List.getElem_cons_succ, List.getElem_cons_zero, Act.put, List.setIfInBounds_toArray, List.set_cons_zero, List.set_cons_succ]
          refine wpAnyH_ready (rs := [11]) (by kernel_rfl) (by simp) ?_
          refine AllReadyH.cons rfl (fun K hK => ?_) AllReadyH.nil
          go_simp
          have hmz := hm5.ext (e := Ext.trans (Ext.trans g2224 hy) ez)
          have hiz := hil.ext (e := Ext.trans hy ez)
          go_at_call 58
          with_reducible refine (implFar_any (w0 := wz) (w := wz) hmz hiz).mono ?_
          rw [hfc.out, ← hB5.out]
          rintro e w9 ⟨uF, rfl, hF, e9⟩
          obtain ⟨dF, mF, rfl, lF⟩ := hF.form
          have hX1 := hid (hSx.out w9 (Ext.trans ez e9))
          have hy9 : Ext w24 w9 := Ext.trans hy (Ext.trans ez e9)
          clear hmz hiz hSx hHeld0
          go_wp2_with fail
          refine hK.out _ _ hX1.out (fun _ => ?_)
          clear hK K
          try simp only [List.getElem_toArray, List.getElem_cons_succ, List.getElem_cons_zero, Act.put, List.setIfInBounds_toArray, List.set_cons_zero, List.set_cons_succ]
          refine wpAnyH_take (i := 12) (v := .tuple #[.slice dF F.length mF, .bool B5]) rfl (by kernel_rfl) (by kernel_rfl) (by kernel_rfl) (fun _ _ _ h => h) (Or.inl ⟨by rfl, by intro wx hx; go_simp⟩) (by assumption) ?_
          try simp only [List.getElem_toArray, List.getElem_cons_succ, List.getElem_cons_zero, Act.put, List.setIfInBounds_toArray, List.set_cons_zero, List.set_cons_succ]
          refine wpAnyH_take (i := 13) (v := .slice dF F.length mF) rfl (by kernel_rfl) (by kernel_rfl) (by kernel_rfl) (fun _ _ _ h => h) (Or.inl ⟨by rfl, by intro wx hx; go_simp⟩) (by assumption) ?_
          try simp only [List.getElem_toArray, List.getElem_cons_succ, List.getElem_cons_zero, Act.put, List.setIfInBounds_toArray, List.set_cons_zero, List.set_cons_succ]
          refine wpAnyH_take (i := 14) (v := .bool B5) rfl (by kernel_rfl) (by kernel_rfl) (by kernel_rfl) (fun _ _ _ h => h) (Or.inl ⟨by rfl, by intro wx hx; go_simp⟩) (by assumption) ?_
          try simp only [List.getElem_toArray, List.getElem_cons_succ, List.getElem_cons_zero, Act.put, List.setIfInBounds_toArray, List.set_cons_zero, List.set_cons_succ]
          refine wpAnyH_take (i := 15) (v := .slice dF F.length mF) rfl (by kernel_rfl) (by kernel_rfl) (by kernel_rfl) (fun _ _ _ h => h) (Or.inl ⟨by rfl, by intro wx hx; go_simp⟩) (by assumption) ?_
          try simp only [List.getElem_toArray, List.getElem_cons_succ, List.getElem_cons_zero, Act.put, List.setIfInBounds_toArray, List.set_cons_zero, List.set_cons_succ]
          refine wpAnyH_take (i := 16) (v := .bool B5) rfl (by kernel_rfl) (by kernel_rfl) (by kernel_rfl) (fun _ _ _ h => h) (Or.inl ⟨by rfl, by intro wx hx; go_simp⟩) (by assumption) ?_
          try simp only [List.getElem_toArray, List.getElem_cons_succ, List.getElem_cons_zero, Act.put, List.setIfInBounds_toArray, List.set_cons_zero, List.set_cons_succ]
          refine wpAnyH_done (by kernel_rfl) ?_ _
          clear ez
          go_upto_region 16 with fail
          have hSx := hid (show ∀ u, Ext w9 u → u.cell? ⟨p5, 0, none⟩ = some (.slice f5 M5.length c5) ∧ u.cell? ⟨bL, oL + t, none⟩ = some (.slice dl E.length ml) ∧ u.cell? ⟨bX, oX + t, none⟩ = some (.int .i64 r5) ∧ u.cell? ⟨bL, oL + (t + 1), none⟩ = some (.slice dl2 E2.length ml2) from fun u e => ⟨e.cell hX1.out.1, e.cell hX1.out.2.1, e.cell hX1.out.2.2.1, e.cell hX1.out.2.2.2⟩)
          refine region_held_from (w0 := w9) (S := fun u => u.cell? ⟨p5, 0, none⟩ = some (.slice f5 M5.length c5) ∧ u.cell? ⟨bL, oL + t, none⟩ = some (.slice dl E.length ml) ∧ u.cell? ⟨bX, oX + t, none⟩ = some (.int .i64 r5) ∧ u.cell? ⟨bL, oL + (t + 1), none⟩ = some (.slice dl2 E2.length ml2)) (by kernel_rfl) hSx.out (fun wy ez hHeld0 => ?_)
          refine wpAnyH_take (i := 0) (v := .agg #[.slice f5 M5.length c5]) rfl (by kernel_rfl) (by kernel_rfl) (by kernel_rfl) (fun _ _ _ h => h) (Or.inl ⟨by rfl, by intro wx hx; obtain ⟨_, _, _, _⟩ := hx; go_simp⟩) (by assumption) ?_
          try simp only [List.getElem_toArray, List.getElem_cons_zero, Act.put, List.setIfInBounds_toArray, List.set_cons_zero, List.set_cons_succ]
          refine wpAnyH_take (i := 1) (v := .slice db b.length mb) rfl (by kernel_rfl) (by kernel_rfl) (by kernel_rfl) (fun _ _ _ h => h) (Or.inl ⟨by rfl, by intro wx hx; go_simp⟩) (by assumption) ?_
          try simp only [List.getElem_toArray, List.getElem_cons_succ, List.getElem_cons_zero, Act.put, List.setIfInBounds_toArray, List.set_cons_zero, List.set_cons_succ]
          refine wpAnyH_take (i := 2) (v := .int .i64 b.length) rfl (by kernel_rfl) (by kernel_rfl) (by kernel_rfl) (fun _ _ _ h => h) (Or.inl ⟨by rfl, by intro wx hx; go_simp⟩) (by assumption) ?_
          try simp only [List.getElem_toArray, List.getElem_cons_succ, List.getElem_cons_zero, Act.put, List.setIfInBounds_toArray, List.set_cons_zero, List.set_cons_succ]
          refine wpAnyH_take (i := 3) (v := .slice (some ⟨bL, oL, none⟩) L.length mL) rfl (by kernel_rfl) (by kernel_rfl) (by kernel_rfl) (fun _ _ _ h => h) (Or.inl ⟨by rfl, by intro wx hx; go_simp⟩) (by assumption) ?_
          try simp only [List.getElem_toArray, List.getElem_cons_succ, List.getElem_cons_zero, Act.put, List.setIfInBounds_toArray, List.set_cons_zero, List.set_cons_succ]
          refine wpAnyH_take (i := 4) (v := .int .i64 t) rfl (by kernel_rfl) (by kernel_rfl) (by kernel_rfl) (fun _ _ _ h => h) (Or.inl ⟨by rfl, by intro wx hx; go_simp⟩) (by assumption) ?_
          try simp only [List.getElem_toArray, List.getElem_cons_succ, List.getElem_cons_zero, Act.put, List.setIfInBounds_toArray, List.set_cons_zero, List.set_cons_succ]
          refine wpAnyH_take (i := 5) (v := .pointer (some ⟨bL, oL + t, none⟩)) rfl (by kernel_rfl) (by kernel_rfl) (by kernel_rfl) (fun _ _ _ h => h) (Or.inl ⟨by rfl, by intro wx hx; go_simp⟩) (by assumption) ?_
          try simp only [List.getElem_toArray, List.getElem_cons_succ, List.getElem_cons_zero, Act.put, List.setIfInBounds_toArray, List.set_cons_zero, List.set_cons_succ]
          refine wpAnyH_take (i := 6) (v := .slice dl E.length ml) rfl (by kernel_rfl) (by kernel_rfl) (by kernel_rfl) (fun _ _ _ h => h) (Or.inl ⟨by rfl, by intro wx hx; obtain ⟨_, _, _, _⟩ := hx; go_simp⟩) (by assumption) ?_
          try simp only [List.getElem_toArray, List.getElem_cons_succ, List.getElem_cons_zero, Act.put, List.setIfInBounds_toArray, List.set_cons_zero, List.set_cons_succ]
          refine wpAnyH_take (i := 7) (v := .slice dF F.length mF) rfl (by kernel_rfl) (by kernel_rfl) (by kernel_rfl) (fun _ _ _ h => h) (Or.inl ⟨by rfl, by intro wx hx; go_simp⟩) (by assumption) ?_
          try simp only [List.getElem_toArray, List.getElem_cons_succ, List.getElem_cons_zero, Act.put, List.setIfInBounds_toArray, List.set_cons_zero, List.set_cons_succ]
          refine wpAnyH_ready (rs := [8]) (by kernel_rfl) (by simp) ?_
          refine AllReadyH.cons rfl (fun K hK => ?_) AllReadyH.nil
          go_simp
          have hmz := hm5.ext (e := Ext.trans (Ext.trans g2224 hy9) ez)
          have hiz := hil.ext (e := Ext.trans hy9 ez)
          have hFz := hF.ext (w' := wy)
          go_at_call 19
          with_reducible refine (implWorkOf_any (w0 := wy) (w := wy) hmz hiz hFz).mono ?_
          rw [← hv1.out, hwo1.out]
          rintro e w10 ⟨rfl, e10⟩
          have hX2 := hid (hSx.out w10 (Ext.trans ez e10))
          have hy10 : Ext w24 w10 := Ext.trans hy9 (Ext.trans ez e10)
          have hF10 := hF.ext (e := Ext.trans ez e10)
          clear hmz hiz hSx hHeld0 hFz hX1
          go_wp2_with fail
          refine hK.out _ _ hX2.out (fun _ => ?_)
          clear hK K
          try simp only [List.getElem_toArray, List.getElem_cons_succ, List.getElem_cons_zero, Act.put, List.setIfInBounds_toArray, List.set_cons_zero, List.set_cons_succ]
          refine wpAnyH_take (i := 9) (v := .tuple #[.int .i64 v1, .bool true]) rfl (by kernel_rfl) (by kernel_rfl) (by kernel_rfl) (fun _ _ _ h => h) (Or.inl ⟨by rfl, by intro wx hx; go_simp⟩) (by assumption) ?_
          try simp only [List.getElem_toArray, List.getElem_cons_succ, List.getElem_cons_zero, Act.put, List.setIfInBounds_toArray, List.set_cons_zero, List.set_cons_succ]
          refine wpAnyH_take (i := 10) (v := .int .i64 v1) rfl (by kernel_rfl) (by kernel_rfl) (by kernel_rfl) (fun _ _ _ h => h) (Or.inl ⟨by rfl, by intro wx hx; go_simp⟩) (by assumption) ?_
          try simp only [List.getElem_toArray, List.getElem_cons_succ, List.getElem_cons_zero, Act.put, List.setIfInBounds_toArray, List.set_cons_zero, List.set_cons_succ]
          refine wpAnyH_take (i := 11) (v := .bool true) rfl (by kernel_rfl) (by kernel_rfl) (by kernel_rfl) (fun _ _ _ h => h) (Or.inl ⟨by rfl, by intro wx hx; go_simp⟩) (by assumption) ?_
          try simp only [List.getElem_toArray, List.getElem_cons_succ, List.getElem_cons_zero, Act.put, List.setIfInBounds_toArray, List.set_cons_zero, List.set_cons_succ]
          refine wpAnyH_take (i := 12) (v := .int .i64 v1) rfl (by kernel_rfl) (by kernel_rfl) (by kernel_rfl) (fun _ _ _ h => h) (Or.inl ⟨by rfl, by intro wx hx; go_simp⟩) (by assumption) ?_
          try simp only [List.getElem_toArray, List.getElem_cons_succ, List.getElem_cons_zero, Act.put, List.setIfInBounds_toArray, List.set_cons_zero, List.set_cons_succ]
          refine wpAnyH_take (i := 13) (v := .bool true) rfl (by kernel_rfl) (by kernel_rfl) (by kernel_rfl) (fun _ _ _ h => h) (Or.inl ⟨by rfl, by intro wx hx; go_simp⟩) (by assumption) ?_
          try simp only [List.getElem_toArray, List.getElem_cons_succ, List.getElem_cons_zero, Act.put, List.setIfInBounds_toArray, List.set_cons_zero, List.set_cons_succ]
          refine wpAnyH_done (by kernel_rfl) ?_ _
          clear ez
          go_upto_region 17 with fail
          have hSx := hid (show ∀ u, Ext w10 u → u.cell? ⟨p5, 0, none⟩ = some (.slice f5 M5.length c5) ∧ u.cell? ⟨bL, oL + t, none⟩ = some (.slice dl E.length ml) ∧ u.cell? ⟨bX, oX + t, none⟩ = some (.int .i64 r5) ∧ u.cell? ⟨bL, oL + (t + 1), none⟩ = some (.slice dl2 E2.length ml2) from fun u e => ⟨e.cell hX2.out.1, e.cell hX2.out.2.1, e.cell hX2.out.2.2.1, e.cell hX2.out.2.2.2⟩)
          refine region_held_from (w0 := w10) (S := fun u => u.cell? ⟨p5, 0, none⟩ = some (.slice f5 M5.length c5) ∧ u.cell? ⟨bL, oL + t, none⟩ = some (.slice dl E.length ml) ∧ u.cell? ⟨bX, oX + t, none⟩ = some (.int .i64 r5) ∧ u.cell? ⟨bL, oL + (t + 1), none⟩ = some (.slice dl2 E2.length ml2)) (by kernel_rfl) hSx.out (fun wx2 ez hHeld0 => ?_)
          refine wpAnyH_take (i := 0) (v := .agg #[.slice f5 M5.length c5]) rfl (by kernel_rfl) (by kernel_rfl) (by kernel_rfl) (fun _ _ _ h => h) (Or.inl ⟨by rfl, by intro wx hx; obtain ⟨_, _, _, _⟩ := hx; go_simp⟩) (by assumption) ?_
          try simp only [List.getElem_toArray, List.getElem_cons_zero, Act.put, List.setIfInBounds_toArray, List.set_cons_zero, List.set_cons_succ]
          refine wpAnyH_take (i := 1) (v := .slice db b.length mb) rfl (by kernel_rfl) (by kernel_rfl) (by kernel_rfl) (fun _ _ _ h => h) (Or.inl ⟨by rfl, by intro wx hx; go_simp⟩) (by assumption) ?_
          try simp only [List.getElem_toArray, List.getElem_cons_succ, List.getElem_cons_zero, Act.put, List.setIfInBounds_toArray, List.set_cons_zero, List.set_cons_succ]
          refine wpAnyH_take (i := 2) (v := .int .i64 b.length) rfl (by kernel_rfl) (by kernel_rfl) (by kernel_rfl) (fun _ _ _ h => h) (Or.inl ⟨by rfl, by intro wx hx; go_simp⟩) (by assumption) ?_
          try simp only [List.getElem_toArray, List.getElem_cons_succ, List.getElem_cons_zero, Act.put, List.setIfInBounds_toArray, List.set_cons_zero, List.set_cons_succ]
          refine wpAnyH_take (i := 3) (v := .slice (some ⟨bL, oL, none⟩) L.length mL) rfl (by kernel_rfl) (by kernel_rfl) (by kernel_rfl) (fun _ _ _ h => h) (Or.inl ⟨by rfl, by intro wx hx; go_simp⟩) (by assumption) ?_
          try simp only [List.getElem_toArray, List.getElem_cons_succ, List.getElem_cons_zero, Act.put, List.setIfInBounds_toArray, List.set_cons_zero, List.set_cons_succ]
          refine wpAnyH_take (i := 4) (v := .int .i64 t) rfl (by kernel_rfl) (by kernel_rfl) (by kernel_rfl) (fun _ _ _ h => h) (Or.inl ⟨by rfl, by intro wx hx; go_simp⟩) (by assumption) ?_
          try simp only [List.getElem_toArray, List.getElem_cons_succ, List.getElem_cons_zero, Act.put, List.setIfInBounds_toArray, List.set_cons_zero, List.set_cons_succ]
          refine wpAnyH_take (i := 5) (v := .int .i64 ((t + 1 : Nat) : Int)) rfl (by kernel_rfl) (by kernel_rfl) (by kernel_rfl) (fun _ _ _ h => h) (Or.inl ⟨by rfl, by intro wx hx; (go_simp; rw [show ((t : Int) + 1) = ((t + 1 : Nat) : Int) by omega]; exact IntWalk.i64_in _ (by omega))⟩) (by assumption) ?_
          try simp only [List.getElem_toArray, List.getElem_cons_succ, List.getElem_cons_zero, Act.put, List.setIfInBounds_toArray, List.set_cons_zero, List.set_cons_succ]
          refine wpAnyH_take (i := 6) (v := .pointer (some ⟨bL, oL + (t + 1), none⟩)) rfl (by kernel_rfl) (by kernel_rfl) (by kernel_rfl) (fun _ _ _ h => h) (Or.inl ⟨by rfl, by intro wx hx; (go_simp; intro hq; exfalso; omega)⟩) (by assumption) ?_
          try simp only [List.getElem_toArray, List.getElem_cons_succ, List.getElem_cons_zero, Act.put, List.setIfInBounds_toArray, List.set_cons_zero, List.set_cons_succ]
          refine wpAnyH_take (i := 7) (v := .slice dl2 E2.length ml2) rfl (by kernel_rfl) (by kernel_rfl) (by kernel_rfl) (fun _ _ _ h => h) (Or.inl ⟨by rfl, by intro wx hx; obtain ⟨_, _, _, _⟩ := hx; go_simp⟩) (by assumption) ?_
          try simp only [List.getElem_toArray, List.getElem_cons_succ, List.getElem_cons_zero, Act.put, List.setIfInBounds_toArray, List.set_cons_zero, List.set_cons_succ]
          refine wpAnyH_take (i := 8) (v := .slice dF F.length mF) rfl (by kernel_rfl) (by kernel_rfl) (by kernel_rfl) (fun _ _ _ h => h) (Or.inl ⟨by rfl, by intro wx hx; go_simp⟩) (by assumption) ?_
          try simp only [List.getElem_toArray, List.getElem_cons_succ, List.getElem_cons_zero, Act.put, List.setIfInBounds_toArray, List.set_cons_zero, List.set_cons_succ]
          refine wpAnyH_ready (rs := [9]) (by kernel_rfl) (by simp) ?_
          refine AllReadyH.cons rfl (fun K hK => ?_) AllReadyH.nil
          go_simp
          have hmz := hm5.ext (e := Ext.trans (Ext.trans g2224 hy10) ez)
          have hiz := hil2.ext (e := Ext.trans hy10 ez)
          have hFz := hF10.ext (w' := wx2)
          go_at_call 19
          with_reducible refine (implWorkOf_any (w0 := wx2) (w := wx2) hmz hiz hFz).mono ?_
          rw [← hv2.out, hwo2.out]
          rintro e w11 ⟨rfl, e11⟩
          have hX3 := hid (hSx.out w11 (Ext.trans ez e11))
          have hy11 : Ext w24 w11 := Ext.trans hy10 (Ext.trans ez e11)
          clear hmz hiz hSx hHeld0 hFz hX2 hF10
          go_wp2_with fail
          refine hK.out _ _ hX3.out (fun _ => ?_)
          clear hK K
          try simp only [List.getElem_toArray, List.getElem_cons_succ, List.getElem_cons_zero, Act.put, List.setIfInBounds_toArray, List.set_cons_zero, List.set_cons_succ]
          refine wpAnyH_take (i := 10) (v := .tuple #[.int .i64 v2, .bool true]) rfl (by kernel_rfl) (by kernel_rfl) (by kernel_rfl) (fun _ _ _ h => h) (Or.inl ⟨by rfl, by intro wx hx; go_simp⟩) (by assumption) ?_
          try simp only [List.getElem_toArray, List.getElem_cons_succ, List.getElem_cons_zero, Act.put, List.setIfInBounds_toArray, List.set_cons_zero, List.set_cons_succ]
          refine wpAnyH_take (i := 11) (v := .int .i64 v2) rfl (by kernel_rfl) (by kernel_rfl) (by kernel_rfl) (fun _ _ _ h => h) (Or.inl ⟨by rfl, by intro wx hx; go_simp⟩) (by assumption) ?_
          try simp only [List.getElem_toArray, List.getElem_cons_succ, List.getElem_cons_zero, Act.put, List.setIfInBounds_toArray, List.set_cons_zero, List.set_cons_succ]
          refine wpAnyH_take (i := 12) (v := .bool true) rfl (by kernel_rfl) (by kernel_rfl) (by kernel_rfl) (fun _ _ _ h => h) (Or.inl ⟨by rfl, by intro wx hx; go_simp⟩) (by assumption) ?_
          try simp only [List.getElem_toArray, List.getElem_cons_succ, List.getElem_cons_zero, Act.put, List.setIfInBounds_toArray, List.set_cons_zero, List.set_cons_succ]
          refine wpAnyH_take (i := 13) (v := .int .i64 v2) rfl (by kernel_rfl) (by kernel_rfl) (by kernel_rfl) (fun _ _ _ h => h) (Or.inl ⟨by rfl, by intro wx hx; go_simp⟩) (by assumption) ?_
          try simp only [List.getElem_toArray, List.getElem_cons_succ, List.getElem_cons_zero, Act.put, List.setIfInBounds_toArray, List.set_cons_zero, List.set_cons_succ]
          refine wpAnyH_take (i := 14) (v := .bool true) rfl (by kernel_rfl) (by kernel_rfl) (by kernel_rfl) (fun _ _ _ h => h) (Or.inl ⟨by rfl, by intro wx hx; go_simp⟩) (by assumption) ?_
          try simp only [List.getElem_toArray, List.getElem_cons_succ, List.getElem_cons_zero, Act.put, List.setIfInBounds_toArray, List.set_cons_zero, List.set_cons_succ]
          refine wpAnyH_done (by kernel_rfl) ?_ _
          clear ez
          go_upto_region 18 with fail
          have hSx := hid (show ∀ u, Ext w11 u → u.cell? ⟨p5, 0, none⟩ = some (.slice f5 M5.length c5) ∧ u.cell? ⟨bL, oL + t, none⟩ = some (.slice dl E.length ml) ∧ u.cell? ⟨bX, oX + t, none⟩ = some (.int .i64 r5) ∧ u.cell? ⟨bL, oL + (t + 1), none⟩ = some (.slice dl2 E2.length ml2) from fun u e => ⟨e.cell hX3.out.1, e.cell hX3.out.2.1, e.cell hX3.out.2.2.1, e.cell hX3.out.2.2.2⟩)
          refine region_held_from (w0 := w11) (S := fun u => u.cell? ⟨p5, 0, none⟩ = some (.slice f5 M5.length c5) ∧ u.cell? ⟨bL, oL + t, none⟩ = some (.slice dl E.length ml) ∧ u.cell? ⟨bX, oX + t, none⟩ = some (.int .i64 r5) ∧ u.cell? ⟨bL, oL + (t + 1), none⟩ = some (.slice dl2 E2.length ml2)) (by kernel_rfl) hSx.out (fun wv ez hHeld0 => ?_)
          refine wpAnyH_take (i := 0) (v := .agg #[.slice f5 M5.length c5]) rfl (by kernel_rfl) (by kernel_rfl) (by kernel_rfl) (fun _ _ _ h => h) (Or.inl ⟨by rfl, by intro wx hx; obtain ⟨_, _, _, _⟩ := hx; go_simp⟩) (by assumption) ?_
          try simp only [List.getElem_toArray, List.getElem_cons_zero, Act.put, List.setIfInBounds_toArray, List.set_cons_zero, List.set_cons_succ]
          refine wpAnyH_take (i := 1) (v := .slice db b.length mb) rfl (by kernel_rfl) (by kernel_rfl) (by kernel_rfl) (fun _ _ _ h => h) (Or.inl ⟨by rfl, by intro wx hx; go_simp⟩) (by assumption) ?_
          try simp only [List.getElem_toArray, List.getElem_cons_succ, List.getElem_cons_zero, Act.put, List.setIfInBounds_toArray, List.set_cons_zero, List.set_cons_succ]
          refine wpAnyH_take (i := 2) (v := .int .i64 b.length) rfl (by kernel_rfl) (by kernel_rfl) (by kernel_rfl) (fun _ _ _ h => h) (Or.inl ⟨by rfl, by intro wx hx; go_simp⟩) (by assumption) ?_
          try simp only [List.getElem_toArray, List.getElem_cons_succ, List.getElem_cons_zero, Act.put, List.setIfInBounds_toArray, List.set_cons_zero, List.set_cons_succ]
          refine wpAnyH_take (i := 3) (v := .slice (some ⟨bL, oL, none⟩) L.length mL) rfl (by kernel_rfl) (by kernel_rfl) (by kernel_rfl) (fun _ _ _ h => h) (Or.inl ⟨by rfl, by intro wx hx; go_simp⟩) (by assumption) ?_
          try simp only [List.getElem_toArray, List.getElem_cons_succ, List.getElem_cons_zero, Act.put, List.setIfInBounds_toArray, List.set_cons_zero, List.set_cons_succ]
          refine wpAnyH_take (i := 4) (v := .int .i64 t) rfl (by kernel_rfl) (by kernel_rfl) (by kernel_rfl) (fun _ _ _ h => h) (Or.inl ⟨by rfl, by intro wx hx; go_simp⟩) (by assumption) ?_
          try simp only [List.getElem_toArray, List.getElem_cons_succ, List.getElem_cons_zero, Act.put, List.setIfInBounds_toArray, List.set_cons_zero, List.set_cons_succ]
          refine wpAnyH_take (i := 5) (v := .pointer (some ⟨bL, oL + t, none⟩)) rfl (by kernel_rfl) (by kernel_rfl) (by kernel_rfl) (fun _ _ _ h => h) (Or.inl ⟨by rfl, by intro wx hx; go_simp⟩) (by assumption) ?_
          try simp only [List.getElem_toArray, List.getElem_cons_succ, List.getElem_cons_zero, Act.put, List.setIfInBounds_toArray, List.set_cons_zero, List.set_cons_succ]
          refine wpAnyH_take (i := 6) (v := .slice dl E.length ml) rfl (by kernel_rfl) (by kernel_rfl) (by kernel_rfl) (fun _ _ _ h => h) (Or.inl ⟨by rfl, by intro wx hx; obtain ⟨_, _, _, _⟩ := hx; go_simp⟩) (by assumption) ?_
          try simp only [List.getElem_toArray, List.getElem_cons_succ, List.getElem_cons_zero, Act.put, List.setIfInBounds_toArray, List.set_cons_zero, List.set_cons_succ]
          refine wpAnyH_take (i := 7) (v := .slice (some ⟨bX, oX, none⟩) X.length mX) rfl (by kernel_rfl) (by kernel_rfl) (by kernel_rfl) (fun _ _ _ h => h) (Or.inl ⟨by rfl, by intro wx hx; go_simp⟩) (by assumption) ?_
          try simp only [List.getElem_toArray, List.getElem_cons_succ, List.getElem_cons_zero, Act.put, List.setIfInBounds_toArray, List.set_cons_zero, List.set_cons_succ]
          refine wpAnyH_take (i := 8) (v := .int .i64 t) rfl (by kernel_rfl) (by kernel_rfl) (by kernel_rfl) (fun _ _ _ h => h) (Or.inl ⟨by rfl, by intro wx hx; go_simp⟩) (by assumption) ?_
          try simp only [List.getElem_toArray, List.getElem_cons_succ, List.getElem_cons_zero, Act.put, List.setIfInBounds_toArray, List.set_cons_zero, List.set_cons_succ]
          refine wpAnyH_take (i := 9) (v := .pointer (some ⟨bX, oX + t, none⟩)) rfl (by kernel_rfl) (by kernel_rfl) (by kernel_rfl) (fun _ _ _ h => h) (Or.inl ⟨by rfl, by intro wx hx; go_simp⟩) (by assumption) ?_
          try simp only [List.getElem_toArray, List.getElem_cons_succ, List.getElem_cons_zero, Act.put, List.setIfInBounds_toArray, List.set_cons_zero, List.set_cons_succ]
          refine wpAnyH_take (i := 10) (v := .int .i64 r5) rfl (by kernel_rfl) (by kernel_rfl) (by kernel_rfl) (fun _ _ _ h => h) (Or.inl ⟨by rfl, by intro wx hx; obtain ⟨_, _, _, _⟩ := hx; go_simp⟩) (by assumption) ?_
          try simp only [List.getElem_toArray, List.getElem_cons_succ, List.getElem_cons_zero, Act.put, List.setIfInBounds_toArray, List.set_cons_zero, List.set_cons_succ]
          refine wpAnyH_ready (rs := [11]) (by kernel_rfl) (by simp) ?_
          refine AllReadyH.cons rfl (fun K hK => ?_) AllReadyH.nil
          go_simp
          have hmz := hm5.ext (e := Ext.trans (Ext.trans g2224 hy11) ez)
          have hiz := hil.ext (e := Ext.trans hy11 ez)
          go_at_call 52
          with_reducible refine (implGrowth_any (w0 := wv) (w := wv) hmz hiz).mono ?_
          rw [← hg5.out, ← hT5.out]
          rintro e w12 ⟨rfl, e12⟩
          have hX4 := hid (hSx.out w12 (Ext.trans ez e12))
          have hy12 : Ext w24 w12 := Ext.trans hy11 (Ext.trans ez e12)
          clear hmz hiz hSx hHeld0 hX3
          go_wp2_with fail
          refine hK.out _ _ hX4.out (fun _ => ?_)
          clear hK K
          try simp only [List.getElem_toArray, List.getElem_cons_succ, List.getElem_cons_zero, Act.put, List.setIfInBounds_toArray, List.set_cons_zero, List.set_cons_succ]
          refine wpAnyH_take (i := 12) (v := .tuple #[.int .i64 g5, .bool T5]) rfl (by kernel_rfl) (by kernel_rfl) (by kernel_rfl) (fun _ _ _ h => h) (Or.inl ⟨by rfl, by intro wx hx; go_simp⟩) (by assumption) ?_
          try simp only [List.getElem_toArray, List.getElem_cons_succ, List.getElem_cons_zero, Act.put, List.setIfInBounds_toArray, List.set_cons_zero, List.set_cons_succ]
          refine wpAnyH_take (i := 13) (v := .int .i64 g5) rfl (by kernel_rfl) (by kernel_rfl) (by kernel_rfl) (fun _ _ _ h => h) (Or.inl ⟨by rfl, by intro wx hx; go_simp⟩) (by assumption) ?_
          try simp only [List.getElem_toArray, List.getElem_cons_succ, List.getElem_cons_zero, Act.put, List.setIfInBounds_toArray, List.set_cons_zero, List.set_cons_succ]
          refine wpAnyH_take (i := 14) (v := .bool T5) rfl (by kernel_rfl) (by kernel_rfl) (by kernel_rfl) (fun _ _ _ h => h) (Or.inl ⟨by rfl, by intro wx hx; go_simp⟩) (by assumption) ?_
          try simp only [List.getElem_toArray, List.getElem_cons_succ, List.getElem_cons_zero, Act.put, List.setIfInBounds_toArray, List.set_cons_zero, List.set_cons_succ]
          refine wpAnyH_take (i := 15) (v := .int .i64 g5) rfl (by kernel_rfl) (by kernel_rfl) (by kernel_rfl) (fun _ _ _ h => h) (Or.inl ⟨by rfl, by intro wx hx; go_simp⟩) (by assumption) ?_
          try simp only [List.getElem_toArray, List.getElem_cons_succ, List.getElem_cons_zero, Act.put, List.setIfInBounds_toArray, List.set_cons_zero, List.set_cons_succ]
          refine wpAnyH_take (i := 16) (v := .bool T5) rfl (by kernel_rfl) (by kernel_rfl) (by kernel_rfl) (fun _ _ _ h => h) (Or.inl ⟨by rfl, by intro wx hx; go_simp⟩) (by assumption) ?_
          try simp only [List.getElem_toArray, List.getElem_cons_succ, List.getElem_cons_zero, Act.put, List.setIfInBounds_toArray, List.set_cons_zero, List.set_cons_succ]
          refine wpAnyH_done (by kernel_rfl) ?_ _
          clear hX4
          go_wp2_with fail
          go_roundw
          case rel => exact ⟨t + 1, by omega, by go_num, hy12⟩
          case measure => simp [intOf]; omega
        · go_wp2_with fail
          go_ret
          exact ⟨rfl, Ext.trans e1 (Ext.trans g24 hy)⟩
end Go.Proofs.YtmgcfnciejfpbaaGreat
