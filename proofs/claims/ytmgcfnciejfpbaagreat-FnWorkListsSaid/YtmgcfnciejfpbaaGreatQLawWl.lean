/- 'laws.FnWorkLists': for every code the law returns true. -/
import Derived.Test.YtmgcfnciejfpbaaGreatQGrM
import Derived.Test.YtmgcfnciejfpbaaGreatQMtU
import Derived.Test.YtmgcfnciejfpbaaGreatQWkL
import Derived.Test.YtmgcfnciejfpbaaGreatQWlP
import Derived.Test.YtmgcfnciejfpbaaGreatQCut
namespace Go.Proofs.YtmgcfnciejfpbaaGreat
open Go.RowKit


set_option maxHeartbeats 6400000 in
set_option maxRecDepth 100000 in
theorem lawFnWorkLists_any {v : Value} {nb : Nat} {w : World} (hc : IsCode w v nb) :
    Calls Tryz.prog 3 #[v] w fun e w' => e = .returned (.bool true) ∧ Ext w w' := by
  have hc' := hc.bytes
  obtain ⟨ac, cc, rfl⟩ := hc'.form
  by_cases hbig : 65536 < nb
  · have hd := hid (decide_eq_true hbig)
    go_enter Tryz.func3, Tryz.ntmps3
    go_wp2_with fail
    refine (vBig_l hc').mono ?_
    rw [hd.out]
    rintro e w1 ⟨rfl, rfl⟩
    go_wp2_with fail
    go_ret
    exact ⟨rfl, Ext.refl _⟩
  · have hd := hid (decide_eq_false hbig)
    go_enter Tryz.func3, Tryz.ntmps3
    go_wp2_with fail
    refine (vBig_l hc').mono ?_
    rw [hd.out]
    rintro e w1 ⟨rfl, rfl⟩
    go_wp2_with fail
    refine (drawIW_any (w0 := w) (w := w) hc').mono ?_
    rintro e w1 ⟨f1, c1, u1, M1, k1, ws1, Z1, rfl, hMok1, hk11, hk12, hwl1, ownZ1, hZ1, e1⟩
    obtain ⟨hm1, hws1⟩ := hZ1.out _ _ ownZ1
    obtain ⟨du1, mu1, rfl, lu1⟩ := hws1.form
    clear hZ1 ownZ1
    go_upto_region 4 with fail
    have gb1 : Ext w1 (w1.alloc (.cells #[.slice f1 M1.length c1] 26)) := inferInstance
    have xb1 : (w1.alloc (.cells #[.slice f1 M1.length c1] 26)).cell? ⟨w1.heap.size, 0, none⟩ = some (.slice f1 M1.length c1) := by go_simp
    obtain ⟨p1, hp1⟩ : ∃ r, r = w1.heap.size := ⟨_, rfl⟩
    rw [← hp1] at xb1 ⊢
    replace hp1 := hid hp1
    generalize w1.alloc (.cells #[.slice f1 M1.length c1] 26) = w2 at *
    obtain ⟨Q1, hQ1⟩ : ∃ q, q = iwB M1 k1 ws1 := ⟨_, rfl⟩
    obtain ⟨A1, hA1⟩ : ∃ q, q = askB M1 k1 := ⟨_, rfl⟩
    replace hQ1 := hid hQ1
    replace hA1 := hid hA1
    go_wp2_with fail
    with_reducible refine (implIsWork_any (w0 := w1) (w := w2) hm1 hws1).mono ?_
    rw [← hQ1.out, ← hA1.out]
    rintro e w3 ⟨rfl, e3⟩
    have xb3 := e3.cell xb1
    have g3 : Ext w1 w3 := Ext.trans gb1 e3
    clear xb1
    go_wp2_with fail
    with_reducible refine (specIsWork_any (w0 := w1) (w := w3) hm1 hws1).mono ?_
    rw [← hQ1.out, ← hA1.out]
    rintro e w4 ⟨rfl, e4⟩
    have g4 : Ext w1 w4 := Ext.trans g3 e4
    have gw4 : Ext w w4 := Ext.trans e1 g4
    clear xb3 hm1 hws1 hQ1 hA1
    go_wp2_with fail
    refine (vCut_any (w0 := w) (w := w4) (n := 1) hc (by omega) (by omega)).mono ?_
    rintro e w5 ⟨cv2, nc2, rfl, hcb2, e5⟩
    obtain ⟨a2', c2', rfl⟩ := hcb2.form
    go_wp2_with fail
    refine (drawSW_any (w0 := w5) (w := w5) hcb2).mono ?_
    rintro e w6 ⟨f2, c2, u2, M2, k2, ws2, r2, Z2, rfl, hMok2, hk21, hk22, hwl2, hr21, hr22, ownZ2, hZ2, e6⟩
    obtain ⟨hm2, hws2⟩ := hZ2.out _ _ ownZ2
    obtain ⟨du2, mu2, rfl, lu2⟩ := hws2.form
    have g6 : Ext w1 w6 := Ext.trans g4 (Ext.trans e5 e6)
    clear hZ2 ownZ2 hcb2
    go_upto_region 7 with fail
    have gb2 : Ext w6 (w6.alloc (.cells #[.slice f2 M2.length c2] 26)) := inferInstance
    have xb2 : (w6.alloc (.cells #[.slice f2 M2.length c2] 26)).cell? ⟨w6.heap.size, 0, none⟩ = some (.slice f2 M2.length c2) := by go_simp
    obtain ⟨p2, hp2⟩ : ∃ r, r = w6.heap.size := ⟨_, rfl⟩
    rw [← hp2] at xb2 ⊢
    replace hp2 := hid hp2
    generalize w6.alloc (.cells #[.slice f2 M2.length c2] 26) = w7 at *
    obtain ⟨S2, hS2⟩ : ∃ q, q = stB M2 k2 ws2 r2 := ⟨_, rfl⟩
    obtain ⟨N2, hN2⟩ : ∃ q, q = stL M2 k2 ws2 r2 := ⟨_, rfl⟩
    have hwork := hid (fun h => st_work (M := M2) (k := k2) (r := r2) (ws := ws2) h)
    rw [← hS2, ← hN2] at hwork
    replace hS2 := hid hS2
    replace hN2 := hid hN2
    go_wp2_with fail
    with_reducible refine (stepWork_any (w0 := w6) (w := w7) hm2 hws2).mono ?_
    rw [← hS2.out, ← hN2.out]
    rintro e w8 ⟨n1, rfl, hn1, e8⟩
    obtain ⟨dn1, mn1, rfl, ln1⟩ := hn1.form
    have x2_8 := e8.cell xb2
    have g68 : Ext w6 w8 := Ext.trans gb2 e8
    clear xb2
    go_wp2_with fail
    with_reducible refine (specStep_any (w0 := w6) (w := w8) hm2 hws2).mono ?_
    rw [← hS2.out, ← hN2.out]
    rintro e w9 ⟨n2, rfl, hn2, e9⟩
    obtain ⟨dn2, mn2, rfl, ln2⟩ := hn2.form
    have x2_9 := e9.cell x2_8
    have hn1 := hn1.ext (w' := w9)
    have g69 : Ext w6 w9 := Ext.trans g68 e9
    have g9 : Ext w1 w9 := Ext.trans g6 g69
    have gw9 : Ext w w9 := Ext.trans e1 g9
    clear x2_8 hws2 hS2 hN2
    go_wp2_with fail
    refine (vCut_any (w0 := w) (w := w9) (n := 2) hc (by omega) (by omega)).mono ?_
    rintro e w10 ⟨cv3, nc3, rfl, hcb3, e10⟩
    obtain ⟨a3', c3', rfl⟩ := hcb3.form
    go_wp2_with fail
    refine (drawWO_any (w0 := w10) (w := w10) hcb3).mono ?_
    rintro e w11 ⟨f3, c3, u3, M3, k3, ws3, xv3, X3, Z3, rfl, hMok3, hk31, hk32, hwl3, hXl3, ownZ3, hZ3, e11⟩
    obtain ⟨hm3, hws3, hx3⟩ := hZ3.out _ _ ownZ3
    obtain ⟨du3, mu3, rfl, lu3⟩ := hws3.form
    obtain ⟨dx3, mx3, rfl, lx3⟩ := hx3.form
    have g911 : Ext w9 w11 := Ext.trans e10 e11
    clear hZ3 ownZ3 hcb3
    go_upto_region 10 with fail
    have gb3 : Ext w11 (w11.alloc (.cells #[.slice f3 M3.length c3] 26)) := inferInstance
    have xb3 : (w11.alloc (.cells #[.slice f3 M3.length c3] 26)).cell? ⟨w11.heap.size, 0, none⟩ = some (.slice f3 M3.length c3) := by go_simp
    obtain ⟨p3, hp3⟩ : ∃ r, r = w11.heap.size := ⟨_, rfl⟩
    rw [← hp3] at xb3 ⊢
    replace hp3 := hid hp3
    generalize w11.alloc (.cells #[.slice f3 M3.length c3] 26) = w12 at *
    obtain ⟨V3, hV3⟩ : ∃ q, q = woR M3 k3 ws3 X3 := ⟨_, rfl⟩
    obtain ⟨W3, hW3⟩ : ∃ q, q = woB M3 k3 ws3 X3 := ⟨_, rfl⟩
    replace hV3 := hid hV3
    replace hW3 := hid hW3
    go_wp2_with fail
    with_reducible refine (implWorkOf_any (w0 := w11) (w := w12) hm3 hws3 hx3).mono ?_
    rw [← hV3.out, ← hW3.out]
    rintro e w13 ⟨rfl, e13⟩
    have x3_13 := e13.cell xb3
    have g1113 : Ext w11 w13 := Ext.trans gb3 e13
    clear xb3
    go_wp2_with fail
    with_reducible refine (specWorkOf_any (w0 := w11) (w := w13) hm3 hws3 hx3).mono ?_
    rw [← hV3.out, ← hW3.out]
    rintro e w14 ⟨rfl, e14⟩
    have g914 : Ext w9 w14 := Ext.trans g911 (Ext.trans g1113 e14)
    have g14 : Ext w1 w14 := Ext.trans g9 g914
    have gw14 : Ext w w14 := Ext.trans e1 g14
    have x2_14 := g914.cell x2_9
    have hn1 := hn1.ext (w' := w14)
    have hn2 := hn2.ext (w' := w14)
    have hm2 := hm2.ext (e := Ext.trans g69 g914)
    clear x3_13 hm3 hws3 hx3 hV3 hW3 x2_9
    have q1 : (Q1 != Q1) = false := by simp
    have q2 : (A1 != A1) = false := by simp
    have q3 : (S2 != S2) = false := by simp
    have q4 : (V3 != V3) = false := by simp
    have q5 : (W3 != W3) = false := by simp
    go_wp2_with fail
    with_reducible refine (vInts_same (w0 := w14) (w := w14) hn1 hn2).mono ?_
    rintro e w15 ⟨rfl, e15⟩
    have x2_15 := e15.cell x2_14
    have g15 : Ext w1 w15 := Ext.trans g14 e15
    have gw15 : Ext w w15 := Ext.trans e1 g15
    have hn1 := hn1.ext (w' := w15)
    have hm2 := hm2.ext (w' := w15)
    clear x2_14 hn2
    go_wp2_with fail
    refine (vCut_any (w0 := w) (w := w15) (n := 3) hc (by omega) (by omega)).mono ?_
    rintro e w16 ⟨cv4, nc4, rfl, hcb4, e16⟩
    obtain ⟨a4', c4', rfl⟩ := hcb4.form
    clear q1 q2 q3 q4 q5
    go_wp2_with fail
    refine (drawST_any (w0 := w16) (w := w16) hcb4).mono ?_
    rintro e w17 ⟨f4, c4, av4, M4, A4, Z4, rfl, hMok4, hAl4, ownZ4, hZ4, e17⟩
    obtain ⟨hm4, ha4⟩ := hZ4.out _ _ ownZ4
    obtain ⟨da4, ma4, rfl, la4⟩ := ha4.form
    have g1517 : Ext w15 w17 := Ext.trans e16 e17
    clear hZ4 ownZ4 hcb4
    go_upto_region 15 with fail
    have gb4 : Ext w17 (w17.alloc (.cells #[.slice f4 M4.length c4] 26)) := inferInstance
    have xb4 : (w17.alloc (.cells #[.slice f4 M4.length c4] 26)).cell? ⟨w17.heap.size, 0, none⟩ = some (.slice f4 M4.length c4) := by go_simp
    obtain ⟨p4, hp4⟩ : ∃ r, r = w17.heap.size := ⟨_, rfl⟩
    rw [← hp4] at xb4 ⊢
    replace hp4 := hid hp4
    generalize w17.alloc (.cells #[.slice f4 M4.length c4] 26) = w18 at *
    obtain ⟨S4, hS4⟩ : ∃ q, q = swR M4 A4 := ⟨_, rfl⟩
    obtain ⟨B4, hB4⟩ : ∃ q, q = srvB M4 A4 [] := ⟨_, rfl⟩
    replace hS4 := hid hS4
    replace hB4 := hid hB4
    go_wp2_with fail
    with_reducible refine (implStart_any (w0 := w17) (w := w18) hm4 ha4).mono ?_
    rw [← hS4.out, ← hB4.out]
    rintro e w19 ⟨s1, rfl, hs1, e19⟩
    obtain ⟨ds1, ms1, rfl, ls1⟩ := hs1.form
    have x4_19 := e19.cell xb4
    have g1719 : Ext w17 w19 := Ext.trans gb4 e19
    clear xb4
    go_wp2_with fail
    with_reducible refine (specStart_any (w0 := w17) (w := w19) hm4 ha4).mono ?_
    rw [← hS4.out, ← hB4.out]
    rintro e w20 ⟨s2, rfl, hs2, e20⟩
    obtain ⟨ds2, ms2, rfl, ls2⟩ := hs2.form
    have hs1 := hs1.ext (w' := w20)
    have g1520 : Ext w15 w20 := Ext.trans g1517 (Ext.trans g1719 e20)
    have g20 : Ext w1 w20 := Ext.trans g15 g1520
    have gw20 : Ext w w20 := Ext.trans e1 g20
    have x2_20 := g1520.cell x2_15
    have hn1 := hn1.ext (w' := w20)
    have hm2 := hm2.ext (w' := w20)
    clear x4_19 hm4 ha4 hS4 hB4 x2_15
    go_wp2_with fail
    refine (vCut_any (w0 := w) (w := w20) (n := 4) hc (by omega) (by omega)).mono ?_
    rintro e w21 ⟨cv5, nc5, rfl, hcb5, e21⟩
    obtain ⟨a5', c5', rfl⟩ := hcb5.form
    go_wp2_with fail
    refine (drawWL_any (w0 := w21) (w := w21) hcb5).mono ?_
    rintro e w22 ⟨f5, c5, bv, xv, M5, b, X, Z5, rfl, hMok5, hbl5, hXl5, ownZ5, hZ5, e22⟩
    obtain ⟨hm5, hb5, hX5⟩ := hZ5.out _ _ ownZ5
    obtain ⟨db, mb, rfl, lb⟩ := hb5.form
    obtain ⟨dX, mX, rfl, lX⟩ := hX5.form
    have g2022 : Ext w20 w22 := Ext.trans e21 e22
    clear hZ5 ownZ5 hcb5
    go_upto_region 18 with fail
    have gb5 : Ext w22 (w22.alloc (.cells #[.slice f5 M5.length c5] 26)) := inferInstance
    have xb5 : (w22.alloc (.cells #[.slice f5 M5.length c5] 26)).cell? ⟨w22.heap.size, 0, none⟩ = some (.slice f5 M5.length c5) := by go_simp
    obtain ⟨p5, hp5⟩ : ∃ r, r = w22.heap.size := ⟨_, rfl⟩
    rw [← hp5] at xb5 ⊢
    replace hp5 := hid hp5
    generalize w22.alloc (.cells #[.slice f5 M5.length c5] 26) = w23 at *
    go_wp2_with fail
    with_reducible refine (implLists_any (w0 := w22) (w := w23) hm5 hb5 hX5).mono ?_
    rintro e w24 ⟨uL, rfl, hL, e24⟩
    obtain ⟨dL, mL, rfl, lL⟩ := hL.form
    have x5_24 := e24.cell xb5
    have g2224 : Ext w22 w24 := Ext.trans gb5 e24
    clear xb5
    go_wp2_with fail
    with_reducible refine (specLists_any (w0 := w22) (w := w24) hm5 hb5 hX5).mono ?_
    rintro e w25 ⟨uL2, rfl, hL2, e25⟩
    obtain ⟨dL2, mL2, rfl, lL2⟩ := hL2.form
    have hL := hL.ext (w' := w25)
    have x5_25 := e25.cell x5_24
    have g2225 : Ext w22 w25 := Ext.trans g2224 e25
    have g2025 : Ext w20 w25 := Ext.trans g2022 g2225
    have g25 : Ext w1 w25 := Ext.trans g20 g2025
    have x2_25 := g2025.cell x2_20
    have hn1 := hn1.ext (w' := w25)
    have hm2 := hm2.ext (w' := w25)
    have hs1 := hs1.ext (e := g2025)
    have hs2 := hs2.ext (e := g2025)
    clear x5_24 x2_20
    obtain ⟨B5, hB5⟩ : ∃ q, q = srvB M5 b X := ⟨_, rfl⟩
    rw [← hB5]
    have q1 : (B4 != B4) = false := by simp
    have q2 : (B5 != B5) = false := by simp
    replace hB5 := hid hB5
    go_wp2_with fail
    with_reducible refine (vInts_same (w0 := w25) (w := w25) hs1 hs2).mono ?_
    rintro e w26 ⟨rfl, e26⟩
    go_wp2_with fail
    with_reducible refine (vTable_l (w0 := w25) (w := w26) hL hL2).mono ?_
    rintro e w27 ⟨rfl, e27⟩
    have g2527 : Ext w25 w27 := Ext.trans e26 e27
    have x5_27 := g2527.cell x5_25
    have x2_27 := g2527.cell x2_25
    have g27 : Ext w1 w27 := Ext.trans g25 g2527
    have g2227 : Ext w22 w27 := Ext.trans g2225 g2527
    have hL := hL.ext (w' := w27)
    have hn1 := hn1.ext (w' := w27)
    have hm2 := hm2.ext (w' := w27)
    clear x5_25 x2_25 hs1 hs2 hL2 q1 q2
    cases S2 with
    | false =>
      clear x2_27 hn1 hm2 hwork
      cases hQ5 : srvB M5 b X with
      | false =>
        have hL0 : (wlR M5 b X).length = 0 := by rw [(wlR_no hQ5).1]; rfl
        generalize wlR M5 b X = L at *
        replace hQ5 := hid hQ5
        go_wp2_with fail
        go_loopw [41, 42, 43, 44, 45, 46] (fun t _ _ _ _ _ wr => t = .int .i64 0 ∧ Ext w27 wr) (fun _ _ _ _ _ _ _ => 0)
        case atStart => exact ⟨rfl, Ext.refl _⟩
        case round =>
          obtain ⟨rfl, hy⟩ := hrel
          go_wp2_with fail
          go_ret
          exact ⟨rfl, Ext.trans e1 (Ext.trans g27 hy)⟩
      | true =>
        obtain ⟨hLl, hiw, hst⟩ := wl_all hQ5
        generalize wlR M5 b X = L at *
        replace hQ5 := hid hQ5
        replace hiw := hid hiw
        replace hst := hid hst
        obtain ⟨bL, oL, dl0, ml0, hdL, _, _, _⟩ := hL.at (w' := w27) (k := 0) (by omega)
        subst hdL
        have hLlid := hid hLl
        clear hLl
        go_wp2_with fail
        go_loopw [41, 42, 43, 44, 45, 46] (fun tv _ _ _ _ _ wr => ∃ t : Nat, t ≤ L.length ∧ tv = .int .i64 t ∧ Ext w27 wr) (fun tv _ _ _ _ _ _ => L.length - (intOf tv).toNat)
        case atStart => exact ⟨0, by omega, rfl, Ext.refl _⟩
        case round =>
          obtain ⟨t, ht, rfl, hy⟩ := hrel
          obtain ⟨wq, rfl⟩ : ∃ y : World, y = wr := ⟨_, rfl⟩
          by_cases hlt : t < L.length
          · obtain ⟨bL', oL', dl, ml, hdL', hcl, hil, hEl⟩ := hL.at (w' := wq) hlt
            cases hdL'
            have hno := hid (hiw.out t hlt)
            obtain ⟨E, hE⟩ : ∃ q, q = row L t := ⟨_, rfl⟩
            rw [← hE] at hcl hil hEl hno
            replace hE := hid hE
            have xq := hy.cell x5_27
            go_upto_region 29 with fail
            have hSx := hid (show ∀ u, Ext wq u → u.cell? ⟨p5, 0, none⟩ = some (.slice f5 M5.length c5) ∧ u.cell? ⟨bL, oL + t, none⟩ = some (.slice dl E.length ml) from fun u e => ⟨e.cell xq, e.cell hcl⟩)
            clear xq hcl
            refine region_held_from (w0 := wq) (S := fun u => u.cell? ⟨p5, 0, none⟩ = some (.slice f5 M5.length c5) ∧ u.cell? ⟨bL, oL + t, none⟩ = some (.slice dl E.length ml)) (by kernel_rfl) hSx.out (fun wz ez hHeld0 => ?_)
            refine wpAnyH_take (i := 0) (v := .agg #[.slice f5 M5.length c5]) rfl (by kernel_rfl) (by kernel_rfl) (by kernel_rfl) (fun _ _ _ h => h) (Or.inl ⟨by rfl, by intro wx hx; obtain ⟨_, _⟩ := hx; go_simp⟩) (by assumption) ?_
            try simp only [List.getElem_toArray, List.getElem_cons_zero, Act.put, List.setIfInBounds_toArray, List.set_cons_zero, List.set_cons_succ]
            refine wpAnyH_take (i := 1) (v := .slice db b.length mb) rfl (by kernel_rfl) (by kernel_rfl) (by kernel_rfl) (fun _ _ _ h => h) (Or.inl ⟨by rfl, by intro wx hx; go_simp⟩) (by assumption) ?_
            try simp only [List.getElem_toArray, List.getElem_cons_succ, List.getElem_cons_zero, Act.put, List.setIfInBounds_toArray, List.set_cons_zero, List.set_cons_succ]
            refine wpAnyH_take (i := 2) (v := .int .i64 b.length) rfl (by kernel_rfl) (by kernel_rfl) (by kernel_rfl) (fun _ _ _ h => h) (Or.inl ⟨by rfl, by intro wx hx; go_simp⟩) (by assumption) ?_
            try simp only [List.getElem_toArray, List.getElem_cons_succ, List.getElem_cons_zero, Act.put, List.setIfInBounds_toArray, List.set_cons_zero, List.set_cons_succ]
            refine wpAnyH_take (i := 3) (v := .slice (some ⟨bL, oL, none⟩) L.length mL) rfl (by kernel_rfl) (by kernel_rfl) (by kernel_rfl) (fun _ _ _ h => h) (Or.inl ⟨by rfl, by intro wx hx; go_simp⟩) (by assumption) ?_
            try simp only [List.getElem_toArray, List.getElem_cons_succ, List.getElem_cons_zero, Act.put, List.setIfInBounds_toArray, List.set_cons_zero, List.set_cons_succ]
            refine wpAnyH_take (i := 4) (v := .int .i64 t) rfl (by kernel_rfl) (by kernel_rfl) (by kernel_rfl) (fun _ _ _ h => h) (Or.inl ⟨by rfl, by intro wx hx; go_simp⟩) (by assumption) ?_
            try simp only [List.getElem_toArray, List.getElem_cons_succ, List.getElem_cons_zero, Act.put, List.setIfInBounds_toArray, List.set_cons_zero, List.set_cons_succ]
            refine wpAnyH_take (i := 5) (v := .pointer (some ⟨bL, oL + t, none⟩)) rfl (by kernel_rfl) (by kernel_rfl) (by kernel_rfl) (fun _ _ _ h => h) (Or.inl ⟨by rfl, by intro wx hx; go_simp⟩) (by assumption) ?_
            try simp only [List.getElem_toArray, List.getElem_cons_succ, List.getElem_cons_zero, Act.put, List.setIfInBounds_toArray, List.set_cons_zero, List.set_cons_succ]
            refine wpAnyH_take (i := 6) (v := .slice dl E.length ml) rfl (by kernel_rfl) (by kernel_rfl) (by kernel_rfl) (fun _ _ _ h => h) (Or.inl ⟨by rfl, by intro wx hx; obtain ⟨_, _⟩ := hx; go_simp⟩) (by assumption) ?_
            try simp only [List.getElem_toArray, List.getElem_cons_succ, List.getElem_cons_zero, Act.put, List.setIfInBounds_toArray, List.set_cons_zero, List.set_cons_succ]
            refine wpAnyH_ready (rs := [7]) (by kernel_rfl) (by simp) ?_
            refine AllReadyH.cons rfl (fun K hK => ?_) AllReadyH.nil
            go_simp
            have hmz := hm5.ext (e := Ext.trans (Ext.trans g2227 hy) ez)
            have hiz := hil.ext (e := Ext.trans hy ez)
            go_at_call 12
            with_reducible refine (implIsWork_any (w0 := wz) (w := wz) hmz hiz).mono ?_
            rw [hno.out]
            rintro e w9 ⟨rfl, e9⟩
            have hS9 := hid (hSx.out w9 (Ext.trans ez e9))
            have hyz : Ext w27 w9 := Ext.trans hy (Ext.trans ez e9)
            clear hmz hiz hSx hHeld0 hno
            generalize hAB : askB M5 b.length = A5 at *
            replace hAB := hid hAB
            go_wp2_with fail
            refine hK.out _ _ hS9.out (fun _ => ?_)
            clear hK K
            try simp only [List.getElem_toArray, List.getElem_cons_succ, List.getElem_cons_zero, Act.put, List.setIfInBounds_toArray, List.set_cons_zero, List.set_cons_succ]
            refine wpAnyH_take (i := 8) (v := .tuple #[.bool true, .bool A5]) rfl (by kernel_rfl) (by kernel_rfl) (by kernel_rfl) (fun _ _ _ h => h) (Or.inl ⟨by rfl, by intro wx hx; go_simp⟩) (by assumption) ?_
            try simp only [List.getElem_toArray, List.getElem_cons_succ, List.getElem_cons_zero, Act.put, List.setIfInBounds_toArray, List.set_cons_zero, List.set_cons_succ]
            refine wpAnyH_take (i := 9) (v := .bool true) rfl (by kernel_rfl) (by kernel_rfl) (by kernel_rfl) (fun _ _ _ h => h) (Or.inl ⟨by rfl, by intro wx hx; go_simp⟩) (by assumption) ?_
            try simp only [List.getElem_toArray, List.getElem_cons_succ, List.getElem_cons_zero, Act.put, List.setIfInBounds_toArray, List.set_cons_zero, List.set_cons_succ]
            refine wpAnyH_take (i := 10) (v := .bool A5) rfl (by kernel_rfl) (by kernel_rfl) (by kernel_rfl) (fun _ _ _ h => h) (Or.inl ⟨by rfl, by intro wx hx; go_simp⟩) (by assumption) ?_
            try simp only [List.getElem_toArray, List.getElem_cons_succ, List.getElem_cons_zero, Act.put, List.setIfInBounds_toArray, List.set_cons_zero, List.set_cons_succ]
            refine wpAnyH_take (i := 11) (v := .bool true) rfl (by kernel_rfl) (by kernel_rfl) (by kernel_rfl) (fun _ _ _ h => h) (Or.inl ⟨by rfl, by intro wx hx; go_simp⟩) (by assumption) ?_
            try simp only [List.getElem_toArray, List.getElem_cons_succ, List.getElem_cons_zero, Act.put, List.setIfInBounds_toArray, List.set_cons_zero, List.set_cons_succ]
            refine wpAnyH_take (i := 12) (v := .bool A5) rfl (by kernel_rfl) (by kernel_rfl) (by kernel_rfl) (fun _ _ _ h => h) (Or.inl ⟨by rfl, by intro wx hx; go_simp⟩) (by assumption) ?_
            try simp only [List.getElem_toArray, List.getElem_cons_succ, List.getElem_cons_zero, Act.put, List.setIfInBounds_toArray, List.set_cons_zero, List.set_cons_succ]
            refine wpAnyH_done (by kernel_rfl) ?_ _
            by_cases ht0 : t = 0
            · subst ht0
              clear hS9
              go_wp2_with fail
              go_roundw
              case rel => exact ⟨1, by omega, by go_num, hyz⟩
              case measure => simp [intOf]; omega
            · obtain ⟨s, hs⟩ : ∃ s, t = s + 1 := ⟨t - 1, by omega⟩
              have htne : ((t : Int) == 0) = false := by simp; omega
              have hts : (t : Int) - 1 = s := by omega
              have hsL : s < L.length := by omega
              have hsX : s < X.length := by have := hLlid.out; omega
              have hsid := hid hs
              have htid := hid hts
              obtain ⟨s1, s2, s3, s4⟩ := hst.out s hsX
              rw [← hs, ← hE.out] at s2 s3 s4
              obtain ⟨bL2, oL2, dk, mk, hdL2, hcl0, hil0, hEl0⟩ := hL.at (w' := w9) hsL
              cases hdL2
              obtain ⟨bX, oX, hdX, hcX⟩ := hX5.at (e := Ext.trans g2227 hyz) (w' := w9) hsX
              subst hdX
              obtain ⟨F, hF⟩ : ∃ q, q = row L s := ⟨_, rfl⟩
              rw [← hF] at hcl0 hil0 hEl0 s1 s2 s3 s4
              replace hF := hid hF
              obtain ⟨x, hx⟩ : ∃ q, q = nth X s := ⟨_, rfl⟩
              rw [← hx] at hcX s1 s2
              replace hx := hid hx
              replace s1 := hid s1
              replace s2 := hid s2
              replace s3 := hid s3
              replace s4 := hid s4
              clear hs hts ht0
              go_upto_region 33 with fail
              have hSx := hid (show ∀ u, Ext w9 u → u.cell? ⟨p5, 0, none⟩ = some (.slice f5 M5.length c5) ∧ u.cell? ⟨bL, oL + s, none⟩ = some (.slice dk F.length mk) ∧ u.cell? ⟨bX, oX + s, none⟩ = some (.int .i64 x) from fun u e => ⟨e.cell hS9.out.1, e.cell hcl0, e.cell hcX⟩)
              refine region_held_from (w0 := w9) (S := fun u => u.cell? ⟨p5, 0, none⟩ = some (.slice f5 M5.length c5) ∧ u.cell? ⟨bL, oL + s, none⟩ = some (.slice dk F.length mk) ∧ u.cell? ⟨bX, oX + s, none⟩ = some (.int .i64 x)) (by kernel_rfl) hSx.out (fun wy ey hHeld0 => ?_)
              refine wpAnyH_take (i := 0) (v := .agg #[.slice f5 M5.length c5]) rfl (by kernel_rfl) (by kernel_rfl) (by kernel_rfl) (fun _ _ _ h => h) (Or.inl ⟨by rfl, by intro wx hx; obtain ⟨_, _, _⟩ := hx; go_simp⟩) (by assumption) ?_
              try simp only [List.getElem_toArray, List.getElem_cons_zero, Act.put, List.setIfInBounds_toArray, List.set_cons_zero, List.set_cons_succ]
              refine wpAnyH_take (i := 1) (v := .slice db b.length mb) rfl (by kernel_rfl) (by kernel_rfl) (by kernel_rfl) (fun _ _ _ h => h) (Or.inl ⟨by rfl, by intro wx hx; go_simp⟩) (by assumption) ?_
              try simp only [List.getElem_toArray, List.getElem_cons_succ, List.getElem_cons_zero, Act.put, List.setIfInBounds_toArray, List.set_cons_zero, List.set_cons_succ]
              refine wpAnyH_take (i := 2) (v := .int .i64 b.length) rfl (by kernel_rfl) (by kernel_rfl) (by kernel_rfl) (fun _ _ _ h => h) (Or.inl ⟨by rfl, by intro wx hx; go_simp⟩) (by assumption) ?_
              try simp only [List.getElem_toArray, List.getElem_cons_succ, List.getElem_cons_zero, Act.put, List.setIfInBounds_toArray, List.set_cons_zero, List.set_cons_succ]
              refine wpAnyH_take (i := 3) (v := .slice (some ⟨bL, oL, none⟩) L.length mL) rfl (by kernel_rfl) (by kernel_rfl) (by kernel_rfl) (fun _ _ _ h => h) (Or.inl ⟨by rfl, by intro wx hx; go_simp⟩) (by assumption) ?_
              try simp only [List.getElem_toArray, List.getElem_cons_succ, List.getElem_cons_zero, Act.put, List.setIfInBounds_toArray, List.set_cons_zero, List.set_cons_succ]
              refine wpAnyH_take (i := 4) (v := .int .i64 t) rfl (by kernel_rfl) (by kernel_rfl) (by kernel_rfl) (fun _ _ _ h => h) (Or.inl ⟨by rfl, by intro wx hx; go_simp⟩) (by assumption) ?_
              try simp only [List.getElem_toArray, List.getElem_cons_succ, List.getElem_cons_zero, Act.put, List.setIfInBounds_toArray, List.set_cons_zero, List.set_cons_succ]
              refine wpAnyH_take (i := 5) (v := .int .i64 s) rfl (by kernel_rfl) (by kernel_rfl) (by kernel_rfl) (fun _ _ _ h => h) (Or.inl ⟨by rfl, by intro wx hx; (go_simp; rw [htid.out]; exact IntWalk.i64_in _ (by omega))⟩) (by assumption) ?_
              try simp only [List.getElem_toArray, List.getElem_cons_succ, List.getElem_cons_zero, Act.put, List.setIfInBounds_toArray, List.set_cons_zero, List.set_cons_succ]
              refine wpAnyH_take (i := 6) (v := .pointer (some ⟨bL, oL + s, none⟩)) rfl (by kernel_rfl) (by kernel_rfl) (by kernel_rfl) (fun _ _ _ h => h) (Or.inl ⟨by rfl, by intro wx hx; go_simp⟩) (by assumption) ?_
              try simp only [List.getElem_toArray, List.getElem_cons_succ, List.getElem_cons_zero, Act.put, List.setIfInBounds_toArray, List.set_cons_zero, List.set_cons_succ]
              refine wpAnyH_take (i := 7) (v := .slice dk F.length mk) rfl (by kernel_rfl) (by kernel_rfl) (by kernel_rfl) (fun _ _ _ h => h) (Or.inl ⟨by rfl, by intro wx hx; obtain ⟨_, _, _⟩ := hx; go_simp⟩) (by assumption) ?_
              try simp only [List.getElem_toArray, List.getElem_cons_succ, List.getElem_cons_zero, Act.put, List.setIfInBounds_toArray, List.set_cons_zero, List.set_cons_succ]
              refine wpAnyH_take (i := 8) (v := .slice (some ⟨bX, oX, none⟩) X.length mX) rfl (by kernel_rfl) (by kernel_rfl) (by kernel_rfl) (fun _ _ _ h => h) (Or.inl ⟨by rfl, by intro wx hx; go_simp⟩) (by assumption) ?_
              try simp only [List.getElem_toArray, List.getElem_cons_succ, List.getElem_cons_zero, Act.put, List.setIfInBounds_toArray, List.set_cons_zero, List.set_cons_succ]
              refine wpAnyH_take (i := 9) (v := .int .i64 t) rfl (by kernel_rfl) (by kernel_rfl) (by kernel_rfl) (fun _ _ _ h => h) (Or.inl ⟨by rfl, by intro wx hx; go_simp⟩) (by assumption) ?_
              try simp only [List.getElem_toArray, List.getElem_cons_succ, List.getElem_cons_zero, Act.put, List.setIfInBounds_toArray, List.set_cons_zero, List.set_cons_succ]
              refine wpAnyH_take (i := 10) (v := .int .i64 s) rfl (by kernel_rfl) (by kernel_rfl) (by kernel_rfl) (fun _ _ _ h => h) (Or.inl ⟨by rfl, by intro wx hx; (go_simp; rw [htid.out]; exact IntWalk.i64_in _ (by omega))⟩) (by assumption) ?_
              try simp only [List.getElem_toArray, List.getElem_cons_succ, List.getElem_cons_zero, Act.put, List.setIfInBounds_toArray, List.set_cons_zero, List.set_cons_succ]
              refine wpAnyH_take (i := 11) (v := .pointer (some ⟨bX, oX + s, none⟩)) rfl (by kernel_rfl) (by kernel_rfl) (by kernel_rfl) (fun _ _ _ h => h) (Or.inl ⟨by rfl, by intro wx hx; go_simp⟩) (by assumption) ?_
              try simp only [List.getElem_toArray, List.getElem_cons_succ, List.getElem_cons_zero, Act.put, List.setIfInBounds_toArray, List.set_cons_zero, List.set_cons_succ]
              refine wpAnyH_take (i := 12) (v := .int .i64 x) rfl (by kernel_rfl) (by kernel_rfl) (by kernel_rfl) (fun _ _ _ h => h) (Or.inl ⟨by rfl, by intro wx hx; obtain ⟨_, _, _⟩ := hx; go_simp⟩) (by assumption) ?_
              try simp only [List.getElem_toArray, List.getElem_cons_succ, List.getElem_cons_zero, Act.put, List.setIfInBounds_toArray, List.set_cons_zero, List.set_cons_succ]
              refine wpAnyH_ready (rs := [13]) (by kernel_rfl) (by simp) ?_
              refine AllReadyH.cons rfl (fun K hK => ?_) AllReadyH.nil
              go_simp
              have hmz := hm5.ext (e := Ext.trans (Ext.trans g2227 hyz) ey)
              have hiz := hil0.ext (e := Ext.trans hyz ey)
              go_at_call 16
              with_reducible refine (stepWork_any (w0 := wy) (w := wy) hmz hiz).mono ?_
              rw [s1.out, s2.out]
              rintro e w10 ⟨u10, rfl, hu10, e10⟩
              have hS10 := hid (hSx.out w10 (Ext.trans ey e10))
              have hyy : Ext w27 w10 := Ext.trans hyz (Ext.trans ey e10)
              obtain ⟨dg, mg, rfl, lg⟩ := hu10.form
              clear hmz hiz hSx hHeld0 hcl0 hcX
              go_wp2_with fail
              refine hK.out _ _ hS10.out (fun _ => ?_)
              clear hK K
              try simp only [List.getElem_toArray, List.getElem_cons_succ, List.getElem_cons_zero, Act.put, List.setIfInBounds_toArray, List.set_cons_zero, List.set_cons_succ]
              refine wpAnyH_take (i := 14) (v := .tuple #[.slice dg E.length mg, .bool true]) rfl (by kernel_rfl) (by kernel_rfl) (by kernel_rfl) (fun _ _ _ h => h) (Or.inl ⟨by rfl, by intro wx hx; go_simp⟩) (by assumption) ?_
              try simp only [List.getElem_toArray, List.getElem_cons_succ, List.getElem_cons_zero, Act.put, List.setIfInBounds_toArray, List.set_cons_zero, List.set_cons_succ]
              refine wpAnyH_take (i := 15) (v := .slice dg E.length mg) rfl (by kernel_rfl) (by kernel_rfl) (by kernel_rfl) (fun _ _ _ h => h) (Or.inl ⟨by rfl, by intro wx hx; go_simp⟩) (by assumption) ?_
              try simp only [List.getElem_toArray, List.getElem_cons_succ, List.getElem_cons_zero, Act.put, List.setIfInBounds_toArray, List.set_cons_zero, List.set_cons_succ]
              refine wpAnyH_take (i := 16) (v := .bool true) rfl (by kernel_rfl) (by kernel_rfl) (by kernel_rfl) (fun _ _ _ h => h) (Or.inl ⟨by rfl, by intro wx hx; go_simp⟩) (by assumption) ?_
              try simp only [List.getElem_toArray, List.getElem_cons_succ, List.getElem_cons_zero, Act.put, List.setIfInBounds_toArray, List.set_cons_zero, List.set_cons_succ]
              refine wpAnyH_take (i := 17) (v := .slice dg E.length mg) rfl (by kernel_rfl) (by kernel_rfl) (by kernel_rfl) (fun _ _ _ h => h) (Or.inl ⟨by rfl, by intro wx hx; go_simp⟩) (by assumption) ?_
              try simp only [List.getElem_toArray, List.getElem_cons_succ, List.getElem_cons_zero, Act.put, List.setIfInBounds_toArray, List.set_cons_zero, List.set_cons_succ]
              refine wpAnyH_take (i := 18) (v := .bool true) rfl (by kernel_rfl) (by kernel_rfl) (by kernel_rfl) (fun _ _ _ h => h) (Or.inl ⟨by rfl, by intro wx hx; go_simp⟩) (by assumption) ?_
              try simp only [List.getElem_toArray, List.getElem_cons_succ, List.getElem_cons_zero, Act.put, List.setIfInBounds_toArray, List.set_cons_zero, List.set_cons_succ]
              refine wpAnyH_done (by kernel_rfl) ?_ _
              have hclt : w10.cell? ⟨bL, oL + t, none⟩ = some (.slice dl E.length ml) := (Ext.trans ey e10).cell hS9.out.2
              have hil10 := hil.ext (e := hyy)
              have hil010 := hil0.ext (e := hyy)
              have hcls := hS10.out.2.1
              clear hS9 hS10
              go_wp2_with fail
              with_reducible refine (vInts_same (w0 := w10) (w := w10) hu10 hil10).mono ?_
              rintro e w11 ⟨rfl, e11⟩
              have hct11 := e11.cell hclt
              have hcs11 := e11.cell hcls
              have hy11 : Ext w27 w11 := Ext.trans hyy e11
              clear hclt hcls hu10
              go_wp2_with fail
              go_loopw [46] (fun iv wr => ∃ i : Nat, i ≤ E.length ∧ iv = .int .i64 i ∧ Ext w11 wr) (fun iv _ => E.length - (intOf iv).toNat)
              case atStart => exact ⟨0, by omega, rfl, Ext.refl _⟩
              case round =>
                obtain ⟨i, hi, rfl, hyi⟩ := hrel
                obtain ⟨wi, rfl⟩ : ∃ y : World, y = wr := ⟨_, rfl⟩
                have hcti := hyi.cell hct11
                have hcsi := hyi.cell hcs11
                by_cases hli : i < E.length
                · obtain ⟨bE, oE, hdE, hcE⟩ := hil10.at (e := Ext.trans e11 hyi) (w' := wi) hli
                  subst hdE
                  obtain ⟨bF, oF, hdF, hcF⟩ := hil010.at (e := Ext.trans e11 hyi) (w' := wi) (k := i) (by rw [s3.out]; exact hli)
                  subst hdF
                  have hFi : i < F.length := by rw [s3.out]; exact hli
                  have hle := s4.out i hli
                  have hdec : decide (nth E i < nth F i) = false := decide_eq_false (by omega)
                  generalize nth E i = y1 at *
                  generalize nth F i = y2 at *
                  have hSx := hid (show ∀ u, Ext wi u → u.cell? ⟨bL, oL + t, none⟩ = some (.slice (some ⟨bE, oE, none⟩) E.length ml) ∧ u.cell? ⟨bE, oE + i, none⟩ = some (.int .i64 y1) ∧ u.cell? ⟨bL, oL + s, none⟩ = some (.slice (some ⟨bF, oF, none⟩) F.length mk) ∧ u.cell? ⟨bF, oF + i, none⟩ = some (.int .i64 y2) from fun u e => ⟨e.cell hcti, e.cell hcE, e.cell hcsi, e.cell hcF⟩)
                  go_upto_region 39 with fail
                  clear hcti hcE hcsi hcF hle
                  refine region_held_from (w0 := wi) (S := fun u => u.cell? ⟨bL, oL + t, none⟩ = some (.slice (some ⟨bE, oE, none⟩) E.length ml) ∧ u.cell? ⟨bE, oE + i, none⟩ = some (.int .i64 y1) ∧ u.cell? ⟨bL, oL + s, none⟩ = some (.slice (some ⟨bF, oF, none⟩) F.length mk) ∧ u.cell? ⟨bF, oF + i, none⟩ = some (.int .i64 y2)) (by kernel_rfl) hSx.out (fun wv ev hHeld0 => ?_)
                  refine wpAnyH_take (i := 0) (v := .slice (some ⟨bL, oL, none⟩) L.length mL) rfl (by kernel_rfl) (by kernel_rfl) (by kernel_rfl) (fun _ _ _ h => h) (Or.inl ⟨by rfl, by intro wx hx; go_simp⟩) (by assumption) ?_
                  try simp only [List.getElem_toArray, List.getElem_cons_zero, Act.put, List.setIfInBounds_toArray, List.set_cons_zero, List.set_cons_succ]
                  refine wpAnyH_take (i := 1) (v := .int .i64 t) rfl (by kernel_rfl) (by kernel_rfl) (by kernel_rfl) (fun _ _ _ h => h) (Or.inl ⟨by rfl, by intro wx hx; go_simp⟩) (by assumption) ?_
                  try simp only [List.getElem_toArray, List.getElem_cons_succ, List.getElem_cons_zero, Act.put, List.setIfInBounds_toArray, List.set_cons_zero, List.set_cons_succ]
                  refine wpAnyH_take (i := 2) (v := .pointer (some ⟨bL, oL + t, none⟩)) rfl (by kernel_rfl) (by kernel_rfl) (by kernel_rfl) (fun _ _ _ h => h) (Or.inl ⟨by rfl, by intro wx hx; go_simp⟩) (by assumption) ?_
                  try simp only [List.getElem_toArray, List.getElem_cons_succ, List.getElem_cons_zero, Act.put, List.setIfInBounds_toArray, List.set_cons_zero, List.set_cons_succ]
                  refine wpAnyH_take (i := 3) (v := .slice (some ⟨bE, oE, none⟩) E.length ml) rfl (by kernel_rfl) (by kernel_rfl) (by kernel_rfl) (fun _ _ _ h => h) (Or.inl ⟨by rfl, by intro wx hx; obtain ⟨_, _, _, _⟩ := hx; go_simp⟩) (by assumption) ?_
                  try simp only [List.getElem_toArray, List.getElem_cons_succ, List.getElem_cons_zero, Act.put, List.setIfInBounds_toArray, List.set_cons_zero, List.set_cons_succ]
                  refine wpAnyH_take (i := 4) (v := .int .i64 i) rfl (by kernel_rfl) (by kernel_rfl) (by kernel_rfl) (fun _ _ _ h => h) (Or.inl ⟨by rfl, by intro wx hx; go_simp⟩) (by assumption) ?_
                  try simp only [List.getElem_toArray, List.getElem_cons_succ, List.getElem_cons_zero, Act.put, List.setIfInBounds_toArray, List.set_cons_zero, List.set_cons_succ]
                  refine wpAnyH_take (i := 5) (v := .pointer (some ⟨bE, oE + i, none⟩)) rfl (by kernel_rfl) (by kernel_rfl) (by kernel_rfl) (fun _ _ _ h => h) (Or.inl ⟨by rfl, by intro wx hx; go_simp⟩) (by assumption) ?_
                  try simp only [List.getElem_toArray, List.getElem_cons_succ, List.getElem_cons_zero, Act.put, List.setIfInBounds_toArray, List.set_cons_zero, List.set_cons_succ]
                  refine wpAnyH_take (i := 6) (v := .int .i64 y1) rfl (by kernel_rfl) (by kernel_rfl) (by kernel_rfl) (fun _ _ _ h => h) (Or.inl ⟨by rfl, by intro wx hx; obtain ⟨_, _, _, _⟩ := hx; go_simp⟩) (by assumption) ?_
                  try simp only [List.getElem_toArray, List.getElem_cons_succ, List.getElem_cons_zero, Act.put, List.setIfInBounds_toArray, List.set_cons_zero, List.set_cons_succ]
                  refine wpAnyH_take (i := 7) (v := .slice (some ⟨bL, oL, none⟩) L.length mL) rfl (by kernel_rfl) (by kernel_rfl) (by kernel_rfl) (fun _ _ _ h => h) (Or.inl ⟨by rfl, by intro wx hx; go_simp⟩) (by assumption) ?_
                  try simp only [List.getElem_toArray, List.getElem_cons_succ, List.getElem_cons_zero, Act.put, List.setIfInBounds_toArray, List.set_cons_zero, List.set_cons_succ]
                  refine wpAnyH_take (i := 8) (v := .int .i64 t) rfl (by kernel_rfl) (by kernel_rfl) (by kernel_rfl) (fun _ _ _ h => h) (Or.inl ⟨by rfl, by intro wx hx; go_simp⟩) (by assumption) ?_
                  try simp only [List.getElem_toArray, List.getElem_cons_succ, List.getElem_cons_zero, Act.put, List.setIfInBounds_toArray, List.set_cons_zero, List.set_cons_succ]
                  refine wpAnyH_take (i := 9) (v := .int .i64 s) rfl (by kernel_rfl) (by kernel_rfl) (by kernel_rfl) (fun _ _ _ h => h) (Or.inl ⟨by rfl, by intro wx hx; (go_simp; rw [htid.out]; exact IntWalk.i64_in _ (by omega))⟩) (by assumption) ?_
                  try simp only [List.getElem_toArray, List.getElem_cons_succ, List.getElem_cons_zero, Act.put, List.setIfInBounds_toArray, List.set_cons_zero, List.set_cons_succ]
                  refine wpAnyH_take (i := 10) (v := .pointer (some ⟨bL, oL + s, none⟩)) rfl (by kernel_rfl) (by kernel_rfl) (by kernel_rfl) (fun _ _ _ h => h) (Or.inl ⟨by rfl, by intro wx hx; go_simp⟩) (by assumption) ?_
                  try simp only [List.getElem_toArray, List.getElem_cons_succ, List.getElem_cons_zero, Act.put, List.setIfInBounds_toArray, List.set_cons_zero, List.set_cons_succ]
                  refine wpAnyH_take (i := 11) (v := .slice (some ⟨bF, oF, none⟩) F.length mk) rfl (by kernel_rfl) (by kernel_rfl) (by kernel_rfl) (fun _ _ _ h => h) (Or.inl ⟨by rfl, by intro wx hx; obtain ⟨_, _, _, _⟩ := hx; go_simp⟩) (by assumption) ?_
                  try simp only [List.getElem_toArray, List.getElem_cons_succ, List.getElem_cons_zero, Act.put, List.setIfInBounds_toArray, List.set_cons_zero, List.set_cons_succ]
                  refine wpAnyH_take (i := 12) (v := .int .i64 i) rfl (by kernel_rfl) (by kernel_rfl) (by kernel_rfl) (fun _ _ _ h => h) (Or.inl ⟨by rfl, by intro wx hx; go_simp⟩) (by assumption) ?_
                  try simp only [List.getElem_toArray, List.getElem_cons_succ, List.getElem_cons_zero, Act.put, List.setIfInBounds_toArray, List.set_cons_zero, List.set_cons_succ]
                  refine wpAnyH_take (i := 13) (v := .pointer (some ⟨bF, oF + i, none⟩)) rfl (by kernel_rfl) (by kernel_rfl) (by kernel_rfl) (fun _ _ _ h => h) (Or.inl ⟨by rfl, by intro wx hx; go_simp⟩) (by assumption) ?_
                  try simp only [List.getElem_toArray, List.getElem_cons_succ, List.getElem_cons_zero, Act.put, List.setIfInBounds_toArray, List.set_cons_zero, List.set_cons_succ]
                  refine wpAnyH_take (i := 14) (v := .int .i64 y2) rfl (by kernel_rfl) (by kernel_rfl) (by kernel_rfl) (fun _ _ _ h => h) (Or.inl ⟨by rfl, by intro wx hx; obtain ⟨_, _, _, _⟩ := hx; go_simp⟩) (by assumption) ?_
                  try simp only [List.getElem_toArray, List.getElem_cons_succ, List.getElem_cons_zero, Act.put, List.setIfInBounds_toArray, List.set_cons_zero, List.set_cons_succ]
                  refine wpAnyH_take (i := 15) (v := .bool false) rfl (by kernel_rfl) (by kernel_rfl) (by kernel_rfl) (fun _ _ _ h => h) (Or.inl ⟨by rfl, by intro wx hx; go_simp⟩) (by assumption) ?_
                  try simp only [List.getElem_toArray, List.getElem_cons_succ, List.getElem_cons_zero, Act.put, List.setIfInBounds_toArray, List.set_cons_zero, List.set_cons_succ]
                  refine wpAnyH_done (by kernel_rfl) ?_ _
                  clear hSx hHeld0
                  go_wp2_with fail
                  go_roundw
                  case rel => exact ⟨i + 1, by omega, by go_num, Ext.trans hyi ev⟩
                  case measure => simp [intOf]; omega
                · go_wp2_with fail
                  go_roundw
                  case rel => exact ⟨t + 1, by omega, by go_num, Ext.trans hy11 hyi⟩
                  case measure => simp [intOf]; omega
          · go_wp2_with fail
            go_ret
            exact ⟨rfl, Ext.trans e1 (Ext.trans g27 hy)⟩
    | true =>
      have hw2 := hid (hwork.out rfl)
      go_wp2_with fail
      with_reducible refine (implIsWork_any (w0 := w27) (w := w27) hm2 hn1).mono ?_
      rw [hw2.out]
      rintro e w28 ⟨rfl, e28⟩
      have x5_28 := e28.cell x5_27
      have g28 : Ext w1 w28 := Ext.trans g27 e28
      have g2228 : Ext w22 w28 := Ext.trans g2227 e28
      have hL := hL.ext (w' := w28)
      clear x2_27 x5_27 hn1 hm2 hwork
      cases hQ5 : srvB M5 b X with
      | false =>
        have hL0 : (wlR M5 b X).length = 0 := by rw [(wlR_no hQ5).1]; rfl
        generalize wlR M5 b X = L at *
        replace hQ5 := hid hQ5
        go_wp2_with fail
        go_loopw [41, 42, 43, 44, 45, 46] (fun t _ _ _ _ _ wr => t = .int .i64 0 ∧ Ext w28 wr) (fun _ _ _ _ _ _ _ => 0)
        case atStart => exact ⟨rfl, Ext.refl _⟩
        case round =>
          obtain ⟨rfl, hy⟩ := hrel
          go_wp2_with fail
          go_ret
          exact ⟨rfl, Ext.trans e1 (Ext.trans g28 hy)⟩
      | true =>
        obtain ⟨hLl, hiw, hst⟩ := wl_all hQ5
        generalize wlR M5 b X = L at *
        replace hQ5 := hid hQ5
        replace hiw := hid hiw
        replace hst := hid hst
        obtain ⟨bL, oL, dl0, ml0, hdL, _, _, _⟩ := hL.at (w' := w28) (k := 0) (by omega)
        subst hdL
        have hLlid := hid hLl
        clear hLl
        go_wp2_with fail
        go_loopw [41, 42, 43, 44, 45, 46] (fun tv _ _ _ _ _ wr => ∃ t : Nat, t ≤ L.length ∧ tv = .int .i64 t ∧ Ext w28 wr) (fun tv _ _ _ _ _ _ => L.length - (intOf tv).toNat)
        case atStart => exact ⟨0, by omega, rfl, Ext.refl _⟩
        case round =>
          obtain ⟨t, ht, rfl, hy⟩ := hrel
          obtain ⟨wq, rfl⟩ : ∃ y : World, y = wr := ⟨_, rfl⟩
          by_cases hlt : t < L.length
          · obtain ⟨bL', oL', dl, ml, hdL', hcl, hil, hEl⟩ := hL.at (w' := wq) hlt
            cases hdL'
            have hno := hid (hiw.out t hlt)
            obtain ⟨E, hE⟩ : ∃ q, q = row L t := ⟨_, rfl⟩
            rw [← hE] at hcl hil hEl hno
            replace hE := hid hE
            have xq := hy.cell x5_28
            go_upto_region 29 with fail
            have hSx := hid (show ∀ u, Ext wq u → u.cell? ⟨p5, 0, none⟩ = some (.slice f5 M5.length c5) ∧ u.cell? ⟨bL, oL + t, none⟩ = some (.slice dl E.length ml) from fun u e => ⟨e.cell xq, e.cell hcl⟩)
            clear xq hcl
            refine region_held_from (w0 := wq) (S := fun u => u.cell? ⟨p5, 0, none⟩ = some (.slice f5 M5.length c5) ∧ u.cell? ⟨bL, oL + t, none⟩ = some (.slice dl E.length ml)) (by kernel_rfl) hSx.out (fun wz ez hHeld0 => ?_)
            refine wpAnyH_take (i := 0) (v := .agg #[.slice f5 M5.length c5]) rfl (by kernel_rfl) (by kernel_rfl) (by kernel_rfl) (fun _ _ _ h => h) (Or.inl ⟨by rfl, by intro wx hx; obtain ⟨_, _⟩ := hx; go_simp⟩) (by assumption) ?_
            try simp only [List.getElem_toArray, List.getElem_cons_zero, Act.put, List.setIfInBounds_toArray, List.set_cons_zero, List.set_cons_succ]
            refine wpAnyH_take (i := 1) (v := .slice db b.length mb) rfl (by kernel_rfl) (by kernel_rfl) (by kernel_rfl) (fun _ _ _ h => h) (Or.inl ⟨by rfl, by intro wx hx; go_simp⟩) (by assumption) ?_
            try simp only [List.getElem_toArray, List.getElem_cons_succ, List.getElem_cons_zero, Act.put, List.setIfInBounds_toArray, List.set_cons_zero, List.set_cons_succ]
            refine wpAnyH_take (i := 2) (v := .int .i64 b.length) rfl (by kernel_rfl) (by kernel_rfl) (by kernel_rfl) (fun _ _ _ h => h) (Or.inl ⟨by rfl, by intro wx hx; go_simp⟩) (by assumption) ?_
            try simp only [List.getElem_toArray, List.getElem_cons_succ, List.getElem_cons_zero, Act.put, List.setIfInBounds_toArray, List.set_cons_zero, List.set_cons_succ]
            refine wpAnyH_take (i := 3) (v := .slice (some ⟨bL, oL, none⟩) L.length mL) rfl (by kernel_rfl) (by kernel_rfl) (by kernel_rfl) (fun _ _ _ h => h) (Or.inl ⟨by rfl, by intro wx hx; go_simp⟩) (by assumption) ?_
            try simp only [List.getElem_toArray, List.getElem_cons_succ, List.getElem_cons_zero, Act.put, List.setIfInBounds_toArray, List.set_cons_zero, List.set_cons_succ]
            refine wpAnyH_take (i := 4) (v := .int .i64 t) rfl (by kernel_rfl) (by kernel_rfl) (by kernel_rfl) (fun _ _ _ h => h) (Or.inl ⟨by rfl, by intro wx hx; go_simp⟩) (by assumption) ?_
            try simp only [List.getElem_toArray, List.getElem_cons_succ, List.getElem_cons_zero, Act.put, List.setIfInBounds_toArray, List.set_cons_zero, List.set_cons_succ]
            refine wpAnyH_take (i := 5) (v := .pointer (some ⟨bL, oL + t, none⟩)) rfl (by kernel_rfl) (by kernel_rfl) (by kernel_rfl) (fun _ _ _ h => h) (Or.inl ⟨by rfl, by intro wx hx; go_simp⟩) (by assumption) ?_
            try simp only [List.getElem_toArray, List.getElem_cons_succ, List.getElem_cons_zero, Act.put, List.setIfInBounds_toArray, List.set_cons_zero, List.set_cons_succ]
            refine wpAnyH_take (i := 6) (v := .slice dl E.length ml) rfl (by kernel_rfl) (by kernel_rfl) (by kernel_rfl) (fun _ _ _ h => h) (Or.inl ⟨by rfl, by intro wx hx; obtain ⟨_, _⟩ := hx; go_simp⟩) (by assumption) ?_
            try simp only [List.getElem_toArray, List.getElem_cons_succ, List.getElem_cons_zero, Act.put, List.setIfInBounds_toArray, List.set_cons_zero, List.set_cons_succ]
            refine wpAnyH_ready (rs := [7]) (by kernel_rfl) (by simp) ?_
            refine AllReadyH.cons rfl (fun K hK => ?_) AllReadyH.nil
            go_simp
            have hmz := hm5.ext (e := Ext.trans (Ext.trans g2228 hy) ez)
            have hiz := hil.ext (e := Ext.trans hy ez)
            go_at_call 12
            with_reducible refine (implIsWork_any (w0 := wz) (w := wz) hmz hiz).mono ?_
            rw [hno.out]
            rintro e w9 ⟨rfl, e9⟩
            have hS9 := hid (hSx.out w9 (Ext.trans ez e9))
            have hyz : Ext w28 w9 := Ext.trans hy (Ext.trans ez e9)
            clear hmz hiz hSx hHeld0 hno
            generalize hAB : askB M5 b.length = A5 at *
            replace hAB := hid hAB
            go_wp2_with fail
            refine hK.out _ _ hS9.out (fun _ => ?_)
            clear hK K
            try simp only [List.getElem_toArray, List.getElem_cons_succ, List.getElem_cons_zero, Act.put, List.setIfInBounds_toArray, List.set_cons_zero, List.set_cons_succ]
            refine wpAnyH_take (i := 8) (v := .tuple #[.bool true, .bool A5]) rfl (by kernel_rfl) (by kernel_rfl) (by kernel_rfl) (fun _ _ _ h => h) (Or.inl ⟨by rfl, by intro wx hx; go_simp⟩) (by assumption) ?_
            try simp only [List.getElem_toArray, List.getElem_cons_succ, List.getElem_cons_zero, Act.put, List.setIfInBounds_toArray, List.set_cons_zero, List.set_cons_succ]
            refine wpAnyH_take (i := 9) (v := .bool true) rfl (by kernel_rfl) (by kernel_rfl) (by kernel_rfl) (fun _ _ _ h => h) (Or.inl ⟨by rfl, by intro wx hx; go_simp⟩) (by assumption) ?_
            try simp only [List.getElem_toArray, List.getElem_cons_succ, List.getElem_cons_zero, Act.put, List.setIfInBounds_toArray, List.set_cons_zero, List.set_cons_succ]
            refine wpAnyH_take (i := 10) (v := .bool A5) rfl (by kernel_rfl) (by kernel_rfl) (by kernel_rfl) (fun _ _ _ h => h) (Or.inl ⟨by rfl, by intro wx hx; go_simp⟩) (by assumption) ?_
            try simp only [List.getElem_toArray, List.getElem_cons_succ, List.getElem_cons_zero, Act.put, List.setIfInBounds_toArray, List.set_cons_zero, List.set_cons_succ]
            refine wpAnyH_take (i := 11) (v := .bool true) rfl (by kernel_rfl) (by kernel_rfl) (by kernel_rfl) (fun _ _ _ h => h) (Or.inl ⟨by rfl, by intro wx hx; go_simp⟩) (by assumption) ?_
            try simp only [List.getElem_toArray, List.getElem_cons_succ, List.getElem_cons_zero, Act.put, List.setIfInBounds_toArray, List.set_cons_zero, List.set_cons_succ]
            refine wpAnyH_take (i := 12) (v := .bool A5) rfl (by kernel_rfl) (by kernel_rfl) (by kernel_rfl) (fun _ _ _ h => h) (Or.inl ⟨by rfl, by intro wx hx; go_simp⟩) (by assumption) ?_
            try simp only [List.getElem_toArray, List.getElem_cons_succ, List.getElem_cons_zero, Act.put, List.setIfInBounds_toArray, List.set_cons_zero, List.set_cons_succ]
            refine wpAnyH_done (by kernel_rfl) ?_ _
            by_cases ht0 : t = 0
            · subst ht0
              clear hS9
              go_wp2_with fail
              go_roundw
              case rel => exact ⟨1, by omega, by go_num, hyz⟩
              case measure => simp [intOf]; omega
            · obtain ⟨s, hs⟩ : ∃ s, t = s + 1 := ⟨t - 1, by omega⟩
              have htne : ((t : Int) == 0) = false := by simp; omega
              have hts : (t : Int) - 1 = s := by omega
              have hsL : s < L.length := by omega
              have hsX : s < X.length := by have := hLlid.out; omega
              have hsid := hid hs
              have htid := hid hts
              obtain ⟨s1, s2, s3, s4⟩ := hst.out s hsX
              rw [← hs, ← hE.out] at s2 s3 s4
              obtain ⟨bL2, oL2, dk, mk, hdL2, hcl0, hil0, hEl0⟩ := hL.at (w' := w9) hsL
              cases hdL2
              obtain ⟨bX, oX, hdX, hcX⟩ := hX5.at (e := Ext.trans g2228 hyz) (w' := w9) hsX
              subst hdX
              obtain ⟨F, hF⟩ : ∃ q, q = row L s := ⟨_, rfl⟩
              rw [← hF] at hcl0 hil0 hEl0 s1 s2 s3 s4
              replace hF := hid hF
              obtain ⟨x, hx⟩ : ∃ q, q = nth X s := ⟨_, rfl⟩
              rw [← hx] at hcX s1 s2
              replace hx := hid hx
              replace s1 := hid s1
              replace s2 := hid s2
              replace s3 := hid s3
              replace s4 := hid s4
              clear hs hts ht0
              go_upto_region 33 with fail
              have hSx := hid (show ∀ u, Ext w9 u → u.cell? ⟨p5, 0, none⟩ = some (.slice f5 M5.length c5) ∧ u.cell? ⟨bL, oL + s, none⟩ = some (.slice dk F.length mk) ∧ u.cell? ⟨bX, oX + s, none⟩ = some (.int .i64 x) from fun u e => ⟨e.cell hS9.out.1, e.cell hcl0, e.cell hcX⟩)
              refine region_held_from (w0 := w9) (S := fun u => u.cell? ⟨p5, 0, none⟩ = some (.slice f5 M5.length c5) ∧ u.cell? ⟨bL, oL + s, none⟩ = some (.slice dk F.length mk) ∧ u.cell? ⟨bX, oX + s, none⟩ = some (.int .i64 x)) (by kernel_rfl) hSx.out (fun wy ey hHeld0 => ?_)
              refine wpAnyH_take (i := 0) (v := .agg #[.slice f5 M5.length c5]) rfl (by kernel_rfl) (by kernel_rfl) (by kernel_rfl) (fun _ _ _ h => h) (Or.inl ⟨by rfl, by intro wx hx; obtain ⟨_, _, _⟩ := hx; go_simp⟩) (by assumption) ?_
              try simp only [List.getElem_toArray, List.getElem_cons_zero, Act.put, List.setIfInBounds_toArray, List.set_cons_zero, List.set_cons_succ]
              refine wpAnyH_take (i := 1) (v := .slice db b.length mb) rfl (by kernel_rfl) (by kernel_rfl) (by kernel_rfl) (fun _ _ _ h => h) (Or.inl ⟨by rfl, by intro wx hx; go_simp⟩) (by assumption) ?_
              try simp only [List.getElem_toArray, List.getElem_cons_succ, List.getElem_cons_zero, Act.put, List.setIfInBounds_toArray, List.set_cons_zero, List.set_cons_succ]
              refine wpAnyH_take (i := 2) (v := .int .i64 b.length) rfl (by kernel_rfl) (by kernel_rfl) (by kernel_rfl) (fun _ _ _ h => h) (Or.inl ⟨by rfl, by intro wx hx; go_simp⟩) (by assumption) ?_
              try simp only [List.getElem_toArray, List.getElem_cons_succ, List.getElem_cons_zero, Act.put, List.setIfInBounds_toArray, List.set_cons_zero, List.set_cons_succ]
              refine wpAnyH_take (i := 3) (v := .slice (some ⟨bL, oL, none⟩) L.length mL) rfl (by kernel_rfl) (by kernel_rfl) (by kernel_rfl) (fun _ _ _ h => h) (Or.inl ⟨by rfl, by intro wx hx; go_simp⟩) (by assumption) ?_
              try simp only [List.getElem_toArray, List.getElem_cons_succ, List.getElem_cons_zero, Act.put, List.setIfInBounds_toArray, List.set_cons_zero, List.set_cons_succ]
              refine wpAnyH_take (i := 4) (v := .int .i64 t) rfl (by kernel_rfl) (by kernel_rfl) (by kernel_rfl) (fun _ _ _ h => h) (Or.inl ⟨by rfl, by intro wx hx; go_simp⟩) (by assumption) ?_
              try simp only [List.getElem_toArray, List.getElem_cons_succ, List.getElem_cons_zero, Act.put, List.setIfInBounds_toArray, List.set_cons_zero, List.set_cons_succ]
              refine wpAnyH_take (i := 5) (v := .int .i64 s) rfl (by kernel_rfl) (by kernel_rfl) (by kernel_rfl) (fun _ _ _ h => h) (Or.inl ⟨by rfl, by intro wx hx; (go_simp; rw [htid.out]; exact IntWalk.i64_in _ (by omega))⟩) (by assumption) ?_
              try simp only [List.getElem_toArray, List.getElem_cons_succ, List.getElem_cons_zero, Act.put, List.setIfInBounds_toArray, List.set_cons_zero, List.set_cons_succ]
              refine wpAnyH_take (i := 6) (v := .pointer (some ⟨bL, oL + s, none⟩)) rfl (by kernel_rfl) (by kernel_rfl) (by kernel_rfl) (fun _ _ _ h => h) (Or.inl ⟨by rfl, by intro wx hx; go_simp⟩) (by assumption) ?_
              try simp only [List.getElem_toArray, List.getElem_cons_succ, List.getElem_cons_zero, Act.put, List.setIfInBounds_toArray, List.set_cons_zero, List.set_cons_succ]
              refine wpAnyH_take (i := 7) (v := .slice dk F.length mk) rfl (by kernel_rfl) (by kernel_rfl) (by kernel_rfl) (fun _ _ _ h => h) (Or.inl ⟨by rfl, by intro wx hx; obtain ⟨_, _, _⟩ := hx; go_simp⟩) (by assumption) ?_
              try simp only [List.getElem_toArray, List.getElem_cons_succ, List.getElem_cons_zero, Act.put, List.setIfInBounds_toArray, List.set_cons_zero, List.set_cons_succ]
              refine wpAnyH_take (i := 8) (v := .slice (some ⟨bX, oX, none⟩) X.length mX) rfl (by kernel_rfl) (by kernel_rfl) (by kernel_rfl) (fun _ _ _ h => h) (Or.inl ⟨by rfl, by intro wx hx; go_simp⟩) (by assumption) ?_
              try simp only [List.getElem_toArray, List.getElem_cons_succ, List.getElem_cons_zero, Act.put, List.setIfInBounds_toArray, List.set_cons_zero, List.set_cons_succ]
              refine wpAnyH_take (i := 9) (v := .int .i64 t) rfl (by kernel_rfl) (by kernel_rfl) (by kernel_rfl) (fun _ _ _ h => h) (Or.inl ⟨by rfl, by intro wx hx; go_simp⟩) (by assumption) ?_
              try simp only [List.getElem_toArray, List.getElem_cons_succ, List.getElem_cons_zero, Act.put, List.setIfInBounds_toArray, List.set_cons_zero, List.set_cons_succ]
              refine wpAnyH_take (i := 10) (v := .int .i64 s) rfl (by kernel_rfl) (by kernel_rfl) (by kernel_rfl) (fun _ _ _ h => h) (Or.inl ⟨by rfl, by intro wx hx; (go_simp; rw [htid.out]; exact IntWalk.i64_in _ (by omega))⟩) (by assumption) ?_
              try simp only [List.getElem_toArray, List.getElem_cons_succ, List.getElem_cons_zero, Act.put, List.setIfInBounds_toArray, List.set_cons_zero, List.set_cons_succ]
              refine wpAnyH_take (i := 11) (v := .pointer (some ⟨bX, oX + s, none⟩)) rfl (by kernel_rfl) (by kernel_rfl) (by kernel_rfl) (fun _ _ _ h => h) (Or.inl ⟨by rfl, by intro wx hx; go_simp⟩) (by assumption) ?_
              try simp only [List.getElem_toArray, List.getElem_cons_succ, List.getElem_cons_zero, Act.put, List.setIfInBounds_toArray, List.set_cons_zero, List.set_cons_succ]
              refine wpAnyH_take (i := 12) (v := .int .i64 x) rfl (by kernel_rfl) (by kernel_rfl) (by kernel_rfl) (fun _ _ _ h => h) (Or.inl ⟨by rfl, by intro wx hx; obtain ⟨_, _, _⟩ := hx; go_simp⟩) (by assumption) ?_
              try simp only [List.getElem_toArray, List.getElem_cons_succ, List.getElem_cons_zero, Act.put, List.setIfInBounds_toArray, List.set_cons_zero, List.set_cons_succ]
              refine wpAnyH_ready (rs := [13]) (by kernel_rfl) (by simp) ?_
              refine AllReadyH.cons rfl (fun K hK => ?_) AllReadyH.nil
              go_simp
              have hmz := hm5.ext (e := Ext.trans (Ext.trans g2228 hyz) ey)
              have hiz := hil0.ext (e := Ext.trans hyz ey)
              go_at_call 16
              with_reducible refine (stepWork_any (w0 := wy) (w := wy) hmz hiz).mono ?_
              rw [s1.out, s2.out]
              rintro e w10 ⟨u10, rfl, hu10, e10⟩
              have hS10 := hid (hSx.out w10 (Ext.trans ey e10))
              have hyy : Ext w28 w10 := Ext.trans hyz (Ext.trans ey e10)
              obtain ⟨dg, mg, rfl, lg⟩ := hu10.form
              clear hmz hiz hSx hHeld0 hcl0 hcX
              go_wp2_with fail
              refine hK.out _ _ hS10.out (fun _ => ?_)
              clear hK K
              try simp only [List.getElem_toArray, List.getElem_cons_succ, List.getElem_cons_zero, Act.put, List.setIfInBounds_toArray, List.set_cons_zero, List.set_cons_succ]
              refine wpAnyH_take (i := 14) (v := .tuple #[.slice dg E.length mg, .bool true]) rfl (by kernel_rfl) (by kernel_rfl) (by kernel_rfl) (fun _ _ _ h => h) (Or.inl ⟨by rfl, by intro wx hx; go_simp⟩) (by assumption) ?_
              try simp only [List.getElem_toArray, List.getElem_cons_succ, List.getElem_cons_zero, Act.put, List.setIfInBounds_toArray, List.set_cons_zero, List.set_cons_succ]
              refine wpAnyH_take (i := 15) (v := .slice dg E.length mg) rfl (by kernel_rfl) (by kernel_rfl) (by kernel_rfl) (fun _ _ _ h => h) (Or.inl ⟨by rfl, by intro wx hx; go_simp⟩) (by assumption) ?_
              try simp only [List.getElem_toArray, List.getElem_cons_succ, List.getElem_cons_zero, Act.put, List.setIfInBounds_toArray, List.set_cons_zero, List.set_cons_succ]
              refine wpAnyH_take (i := 16) (v := .bool true) rfl (by kernel_rfl) (by kernel_rfl) (by kernel_rfl) (fun _ _ _ h => h) (Or.inl ⟨by rfl, by intro wx hx; go_simp⟩) (by assumption) ?_
              try simp only [List.getElem_toArray, List.getElem_cons_succ, List.getElem_cons_zero, Act.put, List.setIfInBounds_toArray, List.set_cons_zero, List.set_cons_succ]
              refine wpAnyH_take (i := 17) (v := .slice dg E.length mg) rfl (by kernel_rfl) (by kernel_rfl) (by kernel_rfl) (fun _ _ _ h => h) (Or.inl ⟨by rfl, by intro wx hx; go_simp⟩) (by assumption) ?_
              try simp only [List.getElem_toArray, List.getElem_cons_succ, List.getElem_cons_zero, Act.put, List.setIfInBounds_toArray, List.set_cons_zero, List.set_cons_succ]
              refine wpAnyH_take (i := 18) (v := .bool true) rfl (by kernel_rfl) (by kernel_rfl) (by kernel_rfl) (fun _ _ _ h => h) (Or.inl ⟨by rfl, by intro wx hx; go_simp⟩) (by assumption) ?_
              try simp only [List.getElem_toArray, List.getElem_cons_succ, List.getElem_cons_zero, Act.put, List.setIfInBounds_toArray, List.set_cons_zero, List.set_cons_succ]
              refine wpAnyH_done (by kernel_rfl) ?_ _
              have hclt : w10.cell? ⟨bL, oL + t, none⟩ = some (.slice dl E.length ml) := (Ext.trans ey e10).cell hS9.out.2
              have hil10 := hil.ext (e := hyy)
              have hil010 := hil0.ext (e := hyy)
              have hcls := hS10.out.2.1
              clear hS9 hS10
              go_wp2_with fail
              with_reducible refine (vInts_same (w0 := w10) (w := w10) hu10 hil10).mono ?_
              rintro e w11 ⟨rfl, e11⟩
              have hct11 := e11.cell hclt
              have hcs11 := e11.cell hcls
              have hy11 : Ext w28 w11 := Ext.trans hyy e11
              clear hclt hcls hu10
              go_wp2_with fail
              go_loopw [46] (fun iv wr => ∃ i : Nat, i ≤ E.length ∧ iv = .int .i64 i ∧ Ext w11 wr) (fun iv _ => E.length - (intOf iv).toNat)
              case atStart => exact ⟨0, by omega, rfl, Ext.refl _⟩
              case round =>
                obtain ⟨i, hi, rfl, hyi⟩ := hrel
                obtain ⟨wi, rfl⟩ : ∃ y : World, y = wr := ⟨_, rfl⟩
                have hcti := hyi.cell hct11
                have hcsi := hyi.cell hcs11
                by_cases hli : i < E.length
                · obtain ⟨bE, oE, hdE, hcE⟩ := hil10.at (e := Ext.trans e11 hyi) (w' := wi) hli
                  subst hdE
                  obtain ⟨bF, oF, hdF, hcF⟩ := hil010.at (e := Ext.trans e11 hyi) (w' := wi) (k := i) (by rw [s3.out]; exact hli)
                  subst hdF
                  have hFi : i < F.length := by rw [s3.out]; exact hli
                  have hle := s4.out i hli
                  have hdec : decide (nth E i < nth F i) = false := decide_eq_false (by omega)
                  generalize nth E i = y1 at *
                  generalize nth F i = y2 at *
                  have hSx := hid (show ∀ u, Ext wi u → u.cell? ⟨bL, oL + t, none⟩ = some (.slice (some ⟨bE, oE, none⟩) E.length ml) ∧ u.cell? ⟨bE, oE + i, none⟩ = some (.int .i64 y1) ∧ u.cell? ⟨bL, oL + s, none⟩ = some (.slice (some ⟨bF, oF, none⟩) F.length mk) ∧ u.cell? ⟨bF, oF + i, none⟩ = some (.int .i64 y2) from fun u e => ⟨e.cell hcti, e.cell hcE, e.cell hcsi, e.cell hcF⟩)
                  go_upto_region 39 with fail
                  clear hcti hcE hcsi hcF hle
                  refine region_held_from (w0 := wi) (S := fun u => u.cell? ⟨bL, oL + t, none⟩ = some (.slice (some ⟨bE, oE, none⟩) E.length ml) ∧ u.cell? ⟨bE, oE + i, none⟩ = some (.int .i64 y1) ∧ u.cell? ⟨bL, oL + s, none⟩ = some (.slice (some ⟨bF, oF, none⟩) F.length mk) ∧ u.cell? ⟨bF, oF + i, none⟩ = some (.int .i64 y2)) (by kernel_rfl) hSx.out (fun wv ev hHeld0 => ?_)
                  refine wpAnyH_take (i := 0) (v := .slice (some ⟨bL, oL, none⟩) L.length mL) rfl (by kernel_rfl) (by kernel_rfl) (by kernel_rfl) (fun _ _ _ h => h) (Or.inl ⟨by rfl, by intro wx hx; go_simp⟩) (by assumption) ?_
                  try simp only [List.getElem_toArray, List.getElem_cons_zero, Act.put, List.setIfInBounds_toArray, List.set_cons_zero, List.set_cons_succ]
                  refine wpAnyH_take (i := 1) (v := .int .i64 t) rfl (by kernel_rfl) (by kernel_rfl) (by kernel_rfl) (fun _ _ _ h => h) (Or.inl ⟨by rfl, by intro wx hx; go_simp⟩) (by assumption) ?_
                  try simp only [List.getElem_toArray, List.getElem_cons_succ, List.getElem_cons_zero, Act.put, List.setIfInBounds_toArray, List.set_cons_zero, List.set_cons_succ]
                  refine wpAnyH_take (i := 2) (v := .pointer (some ⟨bL, oL + t, none⟩)) rfl (by kernel_rfl) (by kernel_rfl) (by kernel_rfl) (fun _ _ _ h => h) (Or.inl ⟨by rfl, by intro wx hx; go_simp⟩) (by assumption) ?_
                  try simp only [List.getElem_toArray, List.getElem_cons_succ, List.getElem_cons_zero, Act.put, List.setIfInBounds_toArray, List.set_cons_zero, List.set_cons_succ]
                  refine wpAnyH_take (i := 3) (v := .slice (some ⟨bE, oE, none⟩) E.length ml) rfl (by kernel_rfl) (by kernel_rfl) (by kernel_rfl) (fun _ _ _ h => h) (Or.inl ⟨by rfl, by intro wx hx; obtain ⟨_, _, _, _⟩ := hx; go_simp⟩) (by assumption) ?_
                  try simp only [List.getElem_toArray, List.getElem_cons_succ, List.getElem_cons_zero, Act.put, List.setIfInBounds_toArray, List.set_cons_zero, List.set_cons_succ]
                  refine wpAnyH_take (i := 4) (v := .int .i64 i) rfl (by kernel_rfl) (by kernel_rfl) (by kernel_rfl) (fun _ _ _ h => h) (Or.inl ⟨by rfl, by intro wx hx; go_simp⟩) (by assumption) ?_
                  try simp only [List.getElem_toArray, List.getElem_cons_succ, List.getElem_cons_zero, Act.put, List.setIfInBounds_toArray, List.set_cons_zero, List.set_cons_succ]
                  refine wpAnyH_take (i := 5) (v := .pointer (some ⟨bE, oE + i, none⟩)) rfl (by kernel_rfl) (by kernel_rfl) (by kernel_rfl) (fun _ _ _ h => h) (Or.inl ⟨by rfl, by intro wx hx; go_simp⟩) (by assumption) ?_
                  try simp only [List.getElem_toArray, List.getElem_cons_succ, List.getElem_cons_zero, Act.put, List.setIfInBounds_toArray, List.set_cons_zero, List.set_cons_succ]
                  refine wpAnyH_take (i := 6) (v := .int .i64 y1) rfl (by kernel_rfl) (by kernel_rfl) (by kernel_rfl) (fun _ _ _ h => h) (Or.inl ⟨by rfl, by intro wx hx; obtain ⟨_, _, _, _⟩ := hx; go_simp⟩) (by assumption) ?_
                  try simp only [List.getElem_toArray, List.getElem_cons_succ, List.getElem_cons_zero, Act.put, List.setIfInBounds_toArray, List.set_cons_zero, List.set_cons_succ]
                  refine wpAnyH_take (i := 7) (v := .slice (some ⟨bL, oL, none⟩) L.length mL) rfl (by kernel_rfl) (by kernel_rfl) (by kernel_rfl) (fun _ _ _ h => h) (Or.inl ⟨by rfl, by intro wx hx; go_simp⟩) (by assumption) ?_
                  try simp only [List.getElem_toArray, List.getElem_cons_succ, List.getElem_cons_zero, Act.put, List.setIfInBounds_toArray, List.set_cons_zero, List.set_cons_succ]
                  refine wpAnyH_take (i := 8) (v := .int .i64 t) rfl (by kernel_rfl) (by kernel_rfl) (by kernel_rfl) (fun _ _ _ h => h) (Or.inl ⟨by rfl, by intro wx hx; go_simp⟩) (by assumption) ?_
                  try simp only [List.getElem_toArray, List.getElem_cons_succ, List.getElem_cons_zero, Act.put, List.setIfInBounds_toArray, List.set_cons_zero, List.set_cons_succ]
                  refine wpAnyH_take (i := 9) (v := .int .i64 s) rfl (by kernel_rfl) (by kernel_rfl) (by kernel_rfl) (fun _ _ _ h => h) (Or.inl ⟨by rfl, by intro wx hx; (go_simp; rw [htid.out]; exact IntWalk.i64_in _ (by omega))⟩) (by assumption) ?_
                  try simp only [List.getElem_toArray, List.getElem_cons_succ, List.getElem_cons_zero, Act.put, List.setIfInBounds_toArray, List.set_cons_zero, List.set_cons_succ]
                  refine wpAnyH_take (i := 10) (v := .pointer (some ⟨bL, oL + s, none⟩)) rfl (by kernel_rfl) (by kernel_rfl) (by kernel_rfl) (fun _ _ _ h => h) (Or.inl ⟨by rfl, by intro wx hx; go_simp⟩) (by assumption) ?_
                  try simp only [List.getElem_toArray, List.getElem_cons_succ, List.getElem_cons_zero, Act.put, List.setIfInBounds_toArray, List.set_cons_zero, List.set_cons_succ]
                  refine wpAnyH_take (i := 11) (v := .slice (some ⟨bF, oF, none⟩) F.length mk) rfl (by kernel_rfl) (by kernel_rfl) (by kernel_rfl) (fun _ _ _ h => h) (Or.inl ⟨by rfl, by intro wx hx; obtain ⟨_, _, _, _⟩ := hx; go_simp⟩) (by assumption) ?_
                  try simp only [List.getElem_toArray, List.getElem_cons_succ, List.getElem_cons_zero, Act.put, List.setIfInBounds_toArray, List.set_cons_zero, List.set_cons_succ]
                  refine wpAnyH_take (i := 12) (v := .int .i64 i) rfl (by kernel_rfl) (by kernel_rfl) (by kernel_rfl) (fun _ _ _ h => h) (Or.inl ⟨by rfl, by intro wx hx; go_simp⟩) (by assumption) ?_
                  try simp only [List.getElem_toArray, List.getElem_cons_succ, List.getElem_cons_zero, Act.put, List.setIfInBounds_toArray, List.set_cons_zero, List.set_cons_succ]
                  refine wpAnyH_take (i := 13) (v := .pointer (some ⟨bF, oF + i, none⟩)) rfl (by kernel_rfl) (by kernel_rfl) (by kernel_rfl) (fun _ _ _ h => h) (Or.inl ⟨by rfl, by intro wx hx; go_simp⟩) (by assumption) ?_
                  try simp only [List.getElem_toArray, List.getElem_cons_succ, List.getElem_cons_zero, Act.put, List.setIfInBounds_toArray, List.set_cons_zero, List.set_cons_succ]
                  refine wpAnyH_take (i := 14) (v := .int .i64 y2) rfl (by kernel_rfl) (by kernel_rfl) (by kernel_rfl) (fun _ _ _ h => h) (Or.inl ⟨by rfl, by intro wx hx; obtain ⟨_, _, _, _⟩ := hx; go_simp⟩) (by assumption) ?_
                  try simp only [List.getElem_toArray, List.getElem_cons_succ, List.getElem_cons_zero, Act.put, List.setIfInBounds_toArray, List.set_cons_zero, List.set_cons_succ]
                  refine wpAnyH_take (i := 15) (v := .bool false) rfl (by kernel_rfl) (by kernel_rfl) (by kernel_rfl) (fun _ _ _ h => h) (Or.inl ⟨by rfl, by intro wx hx; go_simp⟩) (by assumption) ?_
                  try simp only [List.getElem_toArray, List.getElem_cons_succ, List.getElem_cons_zero, Act.put, List.setIfInBounds_toArray, List.set_cons_zero, List.set_cons_succ]
                  refine wpAnyH_done (by kernel_rfl) ?_ _
                  clear hSx hHeld0
                  go_wp2_with fail
                  go_roundw
                  case rel => exact ⟨i + 1, by omega, by go_num, Ext.trans hyi ev⟩
                  case measure => simp [intOf]; omega
                · go_wp2_with fail
                  go_roundw
                  case rel => exact ⟨t + 1, by omega, by go_num, Ext.trans hy11 hyi⟩
                  case measure => simp [intOf]; omega
          · go_wp2_with fail
            go_ret
            exact ⟨rfl, Ext.trans e1 (Ext.trans g28 hy)⟩
end Go.Proofs.YtmgcfnciejfpbaaGreat
