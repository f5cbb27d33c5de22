/- 'laws.FnSupport': for every code the law returns true. -/
import Derived.Test.YtkibmjenjgijmaaFsD
import Derived.Test.YtkibmjenjgijmaaSpT
import Derived.Test.YtkibmjenjgijmaaFsK
import Derived.Test.YtkibmjenjgijmaaWkJ
import Derived.Test.YtkibmjenjgijmaaSpP
import Derived.Test.YtkibmjenjgijmaaCut
import Derived.Test.YtkibmjenjgijmaaGrM
namespace Go.Proofs.Ytkibmjenjgijmaa
open Go.RowKit


theorem Own.intsAs3 {w : World} {B e : Nat} {v u : Value} {xs : List Int} {R : List Row} (h : Own w B (intRowOf e v xs :: R)) (k : IsInts w u xs) : IsInts w v xs := by
  obtain ⟨a, c, _, h2, h3, _⟩ := k
  exact h.reads h2.1 h3
set_option maxHeartbeats 6400000 in
set_option maxRecDepth 100000 in
theorem lawFnSupport_any {v : Value} {nb : Nat} {w : World} (hc : IsCode w v nb) :
    Calls Try.prog 3 #[v] w fun e w' => e = .returned (.bool true) ∧ Ext w w' := by
  have hc' := hc.bytes
  obtain ⟨ac, cc, rfl⟩ := hc'.form
  by_cases hbig : 65536 < nb
  · have hd := hid (decide_eq_true hbig)
    go_enter Try.func3, Try.ntmps3
    go_wp2_with fail
    refine (vBig_l hc').mono ?_
    rw [hd.out]
    rintro e w1 ⟨rfl, rfl⟩
    go_wp2_with fail
    go_ret
    exact ⟨rfl, Ext.refl _⟩
  · have hd := hid (decide_eq_false hbig)
    go_enter Try.func3, Try.ntmps3
    go_wp2_with fail
    refine (vBig_l hc').mono ?_
    rw [hd.out]
    rintro e w1 ⟨rfl, rfl⟩
    go_wp2_with fail
    refine (drawSup_any (w0 := w) (w := w) hc').mono ?_
    rintro e w1 ⟨f1, c1, u1, M1, k1, ws1, Z1, rfl, hMok1, hk11, hk12, hwl1, ownZ1, hZ1, e1⟩
    obtain ⟨hm1, hws1⟩ := hZ1.out _ _ ownZ1
    obtain ⟨du1, mu1, rfl, lu1⟩ := hws1.form
    clear hZ1 ownZ1
    go_upto_region 4 with fail
    have gb1 : Ext w1 (w1.alloc (.cells #[.slice f1 M1.length c1] 26)) := inferInstance
    have xb1 : (w1.alloc (.cells #[.slice f1 M1.length c1] 26)).cell? ⟨w1.heap.size, 0, none⟩ = some (.slice f1 M1.length c1) := by go_simp
    obtain ⟨p1, hp1⟩ : ∃ r, r = w1.heap.size := ⟨_, rfl⟩
    rw [← hp1] at xb1 ⊢
    replace hp1 := hid hp1
    generalize w1.alloc (.cells #[.slice f1 M1.length c1] 26) = w2 at *
    obtain ⟨Q1, hQ1⟩ : ∃ q, q = iwB M1 k1 ws1 := ⟨_, rfl⟩
    obtain ⟨T, hT⟩ : ∃ q, q = supR M1 k1 ws1 := ⟨_, rfl⟩
    replace hQ1 := hid hQ1
    replace hT := hid hT
    go_wp2_with fail
    with_reducible refine (implSup_any (w0 := w1) (w := w2) hm1 hws1).mono ?_
    rw [← hQ1.out, ← hT.out]
    rintro e w3 ⟨uT, rfl, hT1, e3⟩
    obtain ⟨dT, mT, rfl, lT⟩ := hT1.form
    have xb3 := e3.cell xb1
    have g3 : Ext w1 w3 := Ext.trans gb1 e3
    clear xb1
    go_wp2_with fail
    with_reducible refine (specSup_any (w0 := w1) (w := w3) hm1 hws1).mono ?_
    rw [← hQ1.out, ← hT.out]
    rintro e w4 ⟨uT2, rfl, hT2, e4⟩
    obtain ⟨dT2, mT2, rfl, lT2⟩ := hT2.form
    have xb4 := e4.cell xb3
    have g4 : Ext w1 w4 := Ext.trans g3 e4
    have gw4 : Ext w w4 := Ext.trans e1 g4
    have hT1 := hT1.ext (w' := w4)
    clear xb3
    go_wp2_with fail
    refine (vCut_any (w0 := w) (w := w4) (n := 1) hc (by omega) (by omega)).mono ?_
    rintro e w5 ⟨cv2, nc2, rfl, hcb2, e5⟩
    obtain ⟨a2', c2', rfl⟩ := hcb2.form
    go_wp2_with fail
    refine (drawFS_any (w0 := w5) (w := w5) hcb2).mono ?_
    rintro e w6 ⟨f2, c2, uC, uV, M2, C2, V2, rfl, hm2, hC2, hV2, hCl2, hVl2, e6⟩
    obtain ⟨dC, mC, rfl, lC⟩ := hC2.form
    obtain ⟨dV, mV, rfl, lV⟩ := hV2.form
    have g46 : Ext w4 w6 := Ext.trans e5 e6
    clear hcb2
    go_upto_region 7 with fail
    have gb2 : Ext w6 (w6.alloc (.cells #[.slice f2 M2.length c2] 26)) := inferInstance
    have xb2 : (w6.alloc (.cells #[.slice f2 M2.length c2] 26)).cell? ⟨w6.heap.size, 0, none⟩ = some (.slice f2 M2.length c2) := by go_simp
    obtain ⟨p2, hp2⟩ : ∃ r, r = w6.heap.size := ⟨_, rfl⟩
    rw [← hp2] at xb2 ⊢
    replace hp2 := hid hp2
    generalize w6.alloc (.cells #[.slice f2 M2.length c2] 26) = w7 at *
    obtain ⟨Q2, hQ2⟩ : ∃ q, q = fsB M2 C2 V2 := ⟨_, rfl⟩
    obtain ⟨N2, hN2⟩ : ∃ q, q = fsR M2 C2 V2 := ⟨_, rfl⟩
    replace hQ2 := hid hQ2
    replace hN2 := hid hN2
    go_wp2_with fail
    with_reducible refine (implFS_any (w0 := w6) (w := w7) hm2 hC2 hV2).mono ?_
    rw [← hQ2.out, ← hN2.out]
    rintro e w8 ⟨n1, rfl, hn1, e8⟩
    obtain ⟨dn1, mn1, rfl, ln1⟩ := hn1.form
    have x2_8 := e8.cell xb2
    have g68 : Ext w6 w8 := Ext.trans gb2 e8
    clear xb2
    go_wp2_with fail
    with_reducible refine (specFS_any (w0 := w6) (w := w8) hm2 hC2 hV2).mono ?_
    rw [← hQ2.out, ← hN2.out]
    rintro e w9 ⟨n2, rfl, ownn2, e9⟩
    have hn1 := hn1.ext (w' := w9)
    have hn2 := Own.intsAs3 ownn2 hn1
    obtain ⟨dn2, mn2, rfl, ln2⟩ := hn2.form
    have x2_9 := e9.cell x2_8
    have g69 : Ext w6 w9 := Ext.trans g68 e9
    have g49 : Ext w4 w9 := Ext.trans g46 g69
    have g9 : Ext w1 w9 := Ext.trans g4 g49
    have x1_9 := g49.cell xb4
    have hT1 := hT1.ext (e := g49)
    have hT2 := hT2.ext (e := g49)
    clear x2_8 ownn2 xb4
    have q1 : (Q1 != Q1) = false := by simp
    have q2 : (Q2 != Q2) = false := by simp
    go_wp2_with fail
    with_reducible refine (vTable_l (w0 := w9) (w := w9) hT1 hT2).mono ?_
    rintro e w10 ⟨rfl, e10⟩
    have hn1 := hn1.ext (w' := w10)
    have hn2 := hn2.ext (w' := w10)
    go_wp2_with fail
    with_reducible refine (vInts_same (w0 := w10) (w := w10) hn1 hn2).mono ?_
    rintro e w11 ⟨rfl, e11⟩
    have g911 : Ext w9 w11 := Ext.trans e10 e11
    have x1_11 := g911.cell x1_9
    have x2_11 := g911.cell x2_9
    have g11 : Ext w1 w11 := Ext.trans g9 g911
    have g611 : Ext w6 w11 := Ext.trans g69 g911
    have hm2 := hm2.ext (e := g611)
    have hC2 := hC2.ext (e := g611)
    have hV2 := hV2.ext (e := g611)
    have hn1 := hn1.ext (w' := w11)
    have hT1 := hT1.ext (e := g911)
    have hm1 := hm1.ext (e := g11)
    have hws1 := hws1.ext (e := g11)
    clear q1 q2 x1_9 x2_9 hT2 hn2
    have hQ2' := hQ2.out
    have hN2' := hN2.out
    subst hQ2' hN2'
    clear hQ2 hN2
    cases Q1 with
    | false =>
      go_upto_region 21 with fail
      have gE : Ext w w11 := Ext.trans e1 g11
      cases hF2 : fsB M2 C2 V2 with
      | false =>
        replace hF2 := hid hF2
        go_wp2_with fail
        go_loopw [23, 24, 25] (fun t _ _ wr => t = .int .i64 0 ∧ Ext w11 wr) (fun _ _ _ _ => 0)
        case atStart => exact ⟨rfl, Ext.refl _⟩
        case round =>
          obtain ⟨rfl, hy⟩ := hrel
          go_wp2_with fail
          go_ret
          exact ⟨rfl, Ext.trans gE hy⟩
      | true =>
        obtain ⟨hiw2, hwk2⟩ := fs_work hF2
        have hCl := (fs_all ((Bool.and_eq_true _ _).mp hF2).1).2.2.1
        have hVl := (fs_all ((Bool.and_eq_true _ _).mp hF2).1).2.2.2.1
        have hfr : fsR M2 C2 V2 = fsV M2 C2 V2 := by rw [fsR, hF2]; rfl
        rw [hfr] at hn1 ⊢
        obtain ⟨D2, hD2⟩ : ∃ q, q = fsV M2 C2 V2 := ⟨_, rfl⟩
        rw [← hD2] at hn1 hwk2 ⊢
        replace hF2 := hid hF2
        replace hD2 := hid hD2
        replace hwk2 := hid hwk2
        have hC0 := hid hCl.1
        have hVl' := hid hVl
        clear hiw2 hCl hVl hfr
        obtain ⟨bC, oC, dE0, mE0, hdC, hcE0, hiE0, hlE0⟩ := hC2.at (w' := w11) (k := 0) hC0.out
        subst hdC
        obtain ⟨R0, hR0⟩ : ∃ q, q = row C2 0 := ⟨_, rfl⟩
        rw [← hR0] at hwk2 hcE0 hiE0 hlE0
        replace hR0 := hid hR0
        go_wp2_with fail
        go_loopw [23, 24, 25] (fun tv _ _ wr => ∃ t : Nat, t ≤ C2.length ∧ tv = .int .i64 t ∧ Ext w11 wr) (fun tv _ _ _ => C2.length - (intOf tv).toNat)
        case atStart => exact ⟨0, by omega, rfl, Ext.refl _⟩
        case round =>
          obtain ⟨t, ht, rfl, hy⟩ := hrel
          obtain ⟨wq, rfl⟩ : ∃ y : World, y = wr := ⟨_, rfl⟩
          by_cases hlt : t < C2.length
          · obtain ⟨bC', oC', dE, mE, hdC', hcE, hiE, hlE⟩ := hC2.at (w' := wq) hlt
            cases hdC'
            obtain ⟨hwb, hwv⟩ := hwk2.out t hlt
            obtain ⟨E, hE⟩ : ∃ q, q = row C2 t := ⟨_, rfl⟩
            rw [← hE] at hcE hiE hlE hwb hwv
            replace hE := hid hE
            have hlV : t < V2.length := by rw [hVl'.out]; exact hlt
            obtain ⟨bV, oV, hdV, hcV⟩ := hV2.at (w' := wq) hlV
            subst hdV
            have hdec : decide (nth V2 t < woR M2 R0.length D2 E) = false := decide_eq_false (by omega)
            obtain ⟨y1, hy1⟩ : ∃ q, q = woR M2 R0.length D2 E := ⟨_, rfl⟩
            obtain ⟨y2, hy2⟩ : ∃ q, q = nth V2 t := ⟨_, rfl⟩
            rw [← hy1, ← hy2] at hdec
            rw [← hy2] at hcV
            replace hy1 := hid hy1
            replace hy2 := hid hy2
            replace hwb := hid hwb
            clear hwv
            go_upto_region 24 with fail
            have hSx := hid (show ∀ u, Ext wq u → u.cell? ⟨p2, 0, none⟩ = some (.slice f2 M2.length c2) ∧ u.cell? ⟨bC, oC, none⟩ = some (.slice dE0 R0.length mE0) ∧ u.cell? ⟨bC, oC + t, none⟩ = some (.slice dE E.length mE) from fun u e => ⟨(Ext.trans hy e).cell x2_11, (Ext.trans hy e).cell hcE0, e.cell hcE⟩)
            clear hcE
            refine region_held_from (w0 := wq) (S := fun u => u.cell? ⟨p2, 0, none⟩ = some (.slice f2 M2.length c2) ∧ u.cell? ⟨bC, oC, none⟩ = some (.slice dE0 R0.length mE0) ∧ u.cell? ⟨bC, oC + t, none⟩ = some (.slice dE E.length mE)) (by kernel_rfl) hSx.out (fun wz ez hHeld0 => ?_)
            have hCp : 0 < C2.length := hC0.out
            refine wpAnyH_take (i := 0) (v := .agg #[.slice f2 M2.length c2]) rfl (by kernel_rfl) (by kernel_rfl) (by kernel_rfl) (fun _ _ _ h => h) (Or.inl ⟨by rfl, by intro wx hx; obtain ⟨_, _, _⟩ := hx; go_simp⟩) (by assumption) ?_
            try simp only [List.getElem_toArray, List.getElem_cons_zero, Act.put, List.setIfInBounds_toArray, List.set_cons_zero, List.set_cons_succ]
            refine wpAnyH_take (i := 1) (v := .slice (some ⟨bC, oC, none⟩) C2.length mC) rfl (by kernel_rfl) (by kernel_rfl) (by kernel_rfl) (fun _ _ _ h => h) (Or.inl ⟨by rfl, by intro wx hx; go_simp⟩) (by assumption) ?_
            try simp only [List.getElem_toArray, List.getElem_cons_succ, List.getElem_cons_zero, Act.put, List.setIfInBounds_toArray, List.set_cons_zero, List.set_cons_succ]
            refine wpAnyH_take (i := 2) (v := .pointer (some ⟨bC, oC, none⟩)) rfl (by kernel_rfl) (by kernel_rfl) (by kernel_rfl) (fun _ _ _ h => h) (Or.inl ⟨by rfl, by intro wx hx; go_simp⟩) (by assumption) ?_
            try simp only [List.getElem_toArray, List.getElem_cons_succ, List.getElem_cons_zero, Act.put, List.setIfInBounds_toArray, List.set_cons_zero, List.set_cons_succ]
            refine wpAnyH_take (i := 3) (v := .slice dE0 R0.length mE0) rfl (by kernel_rfl) (by kernel_rfl) (by kernel_rfl) (fun _ _ _ h => h) (Or.inl ⟨by rfl, by intro wx hx; obtain ⟨_, _, _⟩ := hx; go_simp⟩) (by assumption) ?_
            try simp only [List.getElem_toArray, List.getElem_cons_succ, List.getElem_cons_zero, Act.put, List.setIfInBounds_toArray, List.set_cons_zero, List.set_cons_succ]
            refine wpAnyH_take (i := 4) (v := .int .i64 R0.length) rfl (by kernel_rfl) (by kernel_rfl) (by kernel_rfl) (fun _ _ _ h => h) (Or.inl ⟨by rfl, by intro wx hx; go_simp⟩) (by assumption) ?_
            try simp only [List.getElem_toArray, List.getElem_cons_succ, List.getElem_cons_zero, Act.put, List.setIfInBounds_toArray, List.set_cons_zero, List.set_cons_succ]
            refine wpAnyH_take (i := 5) (v := .slice dn1 D2.length mn1) rfl (by kernel_rfl) (by kernel_rfl) (by kernel_rfl) (fun _ _ _ h => h) (Or.inl ⟨by rfl, by intro wx hx; go_simp⟩) (by assumption) ?_
            try simp only [List.getElem_toArray, List.getElem_cons_succ, List.getElem_cons_zero, Act.put, List.setIfInBounds_toArray, List.set_cons_zero, List.set_cons_succ]
            refine wpAnyH_take (i := 6) (v := .slice (some ⟨bC, oC, none⟩) C2.length mC) rfl (by kernel_rfl) (by kernel_rfl) (by kernel_rfl) (fun _ _ _ h => h) (Or.inl ⟨by rfl, by intro wx hx; go_simp⟩) (by assumption) ?_
            try simp only [List.getElem_toArray, List.getElem_cons_succ, List.getElem_cons_zero, Act.put, List.setIfInBounds_toArray, List.set_cons_zero, List.set_cons_succ]
            refine wpAnyH_take (i := 7) (v := .int .i64 t) rfl (by kernel_rfl) (by kernel_rfl) (by kernel_rfl) (fun _ _ _ h => h) (Or.inl ⟨by rfl, by intro wx hx; go_simp⟩) (by assumption) ?_
            try simp only [List.getElem_toArray, List.getElem_cons_succ, List.getElem_cons_zero, Act.put, List.setIfInBounds_toArray, List.set_cons_zero, List.set_cons_succ]
            refine wpAnyH_take (i := 8) (v := .pointer (some ⟨bC, oC + t, none⟩)) rfl (by kernel_rfl) (by kernel_rfl) (by kernel_rfl) (fun _ _ _ h => h) (Or.inl ⟨by rfl, by intro wx hx; go_simp⟩) (by assumption) ?_
            try simp only [List.getElem_toArray, List.getElem_cons_succ, List.getElem_cons_zero, Act.put, List.setIfInBounds_toArray, List.set_cons_zero, List.set_cons_succ]
            refine wpAnyH_take (i := 9) (v := .slice dE E.length mE) rfl (by kernel_rfl) (by kernel_rfl) (by kernel_rfl) (fun _ _ _ h => h) (Or.inl ⟨by rfl, by intro wx hx; obtain ⟨_, _, _⟩ := hx; go_simp⟩) (by assumption) ?_
            try simp only [List.getElem_toArray, List.getElem_cons_succ, List.getElem_cons_zero, Act.put, List.setIfInBounds_toArray, List.set_cons_zero, List.set_cons_succ]
            refine wpAnyH_ready (rs := [10]) (by kernel_rfl) (by simp) ?_
            refine AllReadyH.cons rfl (fun K hK => ?_) AllReadyH.nil
            go_simp
            have hmz := hm2.ext (e := Ext.trans hy ez)
            have hnz := hn1.ext (e := Ext.trans hy ez)
            have hiz := hiE.ext (e := Ext.trans hy ez)
            go_at_call 17
            with_reducible refine (implWorkOf_any (w0 := wz) (w := wz) hmz hnz hiz).mono ?_
            rw [hwb.out, ← hy1.out]
            rintro e w9 ⟨rfl, e9⟩
            have hS9 := hid (hSx.out w9 (Ext.trans ez e9))
            have hyz : Ext w11 w9 := Ext.trans hy (Ext.trans ez e9)
            have hcV9 := (Ext.trans ez e9).cell hcV
            clear hmz hnz hiz hSx hHeld0 hcV
            go_wp2_with fail
            refine hK.out _ _ hS9.out (fun _ => ?_)
            clear hK K
            try simp only [List.getElem_toArray, List.getElem_cons_succ, List.getElem_cons_zero, Act.put, List.setIfInBounds_toArray, List.set_cons_zero, List.set_cons_succ]
            refine wpAnyH_take (i := 11) (v := .tuple #[.int .i64 y1, .bool true]) rfl (by kernel_rfl) (by kernel_rfl) (by kernel_rfl) (fun _ _ _ h => h) (Or.inl ⟨by rfl, by intro wx hx; go_simp⟩) (by assumption) ?_
            try simp only [List.getElem_toArray, List.getElem_cons_succ, List.getElem_cons_zero, Act.put, List.setIfInBounds_toArray, List.set_cons_zero, List.set_cons_succ]
            refine wpAnyH_take (i := 12) (v := .int .i64 y1) rfl (by kernel_rfl) (by kernel_rfl) (by kernel_rfl) (fun _ _ _ h => h) (Or.inl ⟨by rfl, by intro wx hx; go_simp⟩) (by assumption) ?_
            try simp only [List.getElem_toArray, List.getElem_cons_succ, List.getElem_cons_zero, Act.put, List.setIfInBounds_toArray, List.set_cons_zero, List.set_cons_succ]
            refine wpAnyH_take (i := 13) (v := .bool true) rfl (by kernel_rfl) (by kernel_rfl) (by kernel_rfl) (fun _ _ _ h => h) (Or.inl ⟨by rfl, by intro wx hx; go_simp⟩) (by assumption) ?_
            try simp only [List.getElem_toArray, List.getElem_cons_succ, List.getElem_cons_zero, Act.put, List.setIfInBounds_toArray, List.set_cons_zero, List.set_cons_succ]
            refine wpAnyH_take (i := 14) (v := .int .i64 y1) rfl (by kernel_rfl) (by kernel_rfl) (by kernel_rfl) (fun _ _ _ h => h) (Or.inl ⟨by rfl, by intro wx hx; go_simp⟩) (by assumption) ?_
            try simp only [List.getElem_toArray, List.getElem_cons_succ, List.getElem_cons_zero, Act.put, List.setIfInBounds_toArray, List.set_cons_zero, List.set_cons_succ]
            refine wpAnyH_take (i := 15) (v := .bool true) rfl (by kernel_rfl) (by kernel_rfl) (by kernel_rfl) (fun _ _ _ h => h) (Or.inl ⟨by rfl, by intro wx hx; go_simp⟩) (by assumption) ?_
            try simp only [List.getElem_toArray, List.getElem_cons_succ, List.getElem_cons_zero, Act.put, List.setIfInBounds_toArray, List.set_cons_zero, List.set_cons_succ]
            refine wpAnyH_done (by kernel_rfl) ?_ _
            clear hS9
            go_wp2_with fail
            go_roundw
            case rel => exact ⟨t + 1, by omega, by go_num, hyz⟩
            case measure => simp [intOf]; omega
          · have hte : t = C2.length := by omega
            subst hte
            go_wp2_with fail
            go_ret
            exact ⟨rfl, Ext.trans gE hy⟩
    | true =>
      obtain ⟨sl1, sl2, sl3, sl4, sl5, sl6⟩ := sup_law (M := M1) (k := k1) (ws := ws1) hQ1.out.symm
      rw [← hT.out] at sl1 sl2 sl3 sl4 sl5
      obtain ⟨K, hK⟩ : ∃ q, q = supK M1 k1 ws1 := ⟨_, rfl⟩
      rw [← hK] at sl1 sl3 sl4 sl5 sl6
      replace hK := hid hK
      replace sl1 := hid sl1
      replace sl3 := hid sl3
      replace sl4 := hid sl4
      replace sl5 := hid sl5
      have own0 : Own (w11.alloc (.cells #[] 3)) w11.heap.size [⟨3, 1, .slice (some ⟨w11.heap.size, 0, none⟩) 0 0, 0, (K.take 0).map (Value.int .i64)⟩] := (Own.nil w11 w11.heap.size).lit 3 1 0 #[] (Nat.le_refl _) (by unfold maxLen; omega) rfl
      have hb0 : Below w11.heap.size w11 (w11.alloc (.cells #[] 3)) := (Below.refl _ w11).alloc (Nat.le_refl _) _
      obtain ⟨B, hB⟩ : ∃ z, z = w11.heap.size := ⟨_, rfl⟩
      rw [← hB] at own0 hb0
      have hE := hid (show ∀ u, Below B w11 u → Ext w11 u from fun u h => ⟨by rw [← hB]; exact h⟩)
      have hBs := hid (show ∀ u, Ext w11 u → B ≤ u.heap.size from fun u e => by rw [hB]; exact e.size)
      go_upto_region 13 with fail
      rw [← hB]
      replace hB := hid hB
      generalize w11.alloc (.cells #[] 3) = wk at *
      have hT2 := hT1
      go_wp2_with fail
      go_loopw [17, 18, 19, 20] (fun kv iv _ _ wr => ∃ i : Nat, i ≤ T.length ∧ iv = .int .i64 i ∧ Own wr B [⟨3, 1, kv, i, (K.take i).map (Value.int .i64)⟩] ∧ Below B w11 wr) (fun _ iv _ _ _ => T.length - (intOf iv).toNat)
      case atStart => exact ⟨0, by omega, rfl, own0, hb0⟩
      case round =>
        clear own0 hb0
        obtain ⟨i, hi, rfl, own, hb⟩ := hrel
        obtain ⟨wo, rfl⟩ : ∃ y : World, y = wr := ⟨_, rfl⟩
        obtain ⟨dO, mO, hvO⟩ := own.form
        simp only at hvO
        subst hvO
        have eo : Ext w11 wo := hE.out _ hb
        have hBo := hBs.out _ eo
        by_cases hlt : i < T.length
        · obtain ⟨bT, oT, dE, mE, hdT, hcE, hiE, hlE⟩ := hT1.at (w' := wo) hlt
          subst hdT
          have hwv := sl5.out i hlt
          have hKl : i < K.length := by have := sl1.out; omega
          have htk : (K.take (i + 1)).map (Value.int .i64) = (K.take i).map (Value.int .i64) ++ [.int .i64 (nth K i)] := by
            rw [← List.take_append_getElem hKl, List.map_append]
            simp [nth, hKl]
          obtain ⟨E, hEd⟩ : ∃ q, q = row T i := ⟨_, rfl⟩
          rw [← hEd] at hcE hiE hlE hwv
          replace hEd := hid hEd
          obtain ⟨y, hy⟩ : ∃ q, q = nth K i := ⟨_, rfl⟩
          rw [← hy] at htk hwv
          obtain ⟨b1, hb1⟩ : ∃ q, q = woB M1 k1 ws1 E := ⟨_, rfl⟩
          replace hy := hid hy
          replace hb1 := hid hb1
          replace hwv := hid hwv
          replace htk := hid htk
          have hi56 : i ≤ 100 := by omega
          go_upto_region 16 with fail
          have hSx := hid (show ∀ u, Ext wo u → u.cell? ⟨p1, 0, none⟩ = some (.slice f1 M1.length c1) ∧ u.cell? ⟨bT, oT + i, none⟩ = some (.slice dE E.length mE) from fun u e => ⟨(Ext.trans eo e).cell x1_11, e.cell hcE⟩)
          clear hcE
          refine region_held_from (w0 := wo) (S := fun u => u.cell? ⟨p1, 0, none⟩ = some (.slice f1 M1.length c1) ∧ u.cell? ⟨bT, oT + i, none⟩ = some (.slice dE E.length mE)) (by kernel_rfl) hSx.out (fun wz ez hHeld0 => ?_)
          refine wpAnyH_take (i := 0) (v := .agg #[.slice f1 M1.length c1]) rfl (by kernel_rfl) (by kernel_rfl) (by kernel_rfl) (fun _ _ _ h => h) (Or.inl ⟨by rfl, by intro wx hx; obtain ⟨_, _⟩ := hx; go_simp⟩) (by assumption) ?_
          try simp only [List.getElem_toArray, List.getElem_cons_zero, Act.put, List.setIfInBounds_toArray, List.set_cons_zero, List.set_cons_succ]
          refine wpAnyH_take (i := 1) (v := .int .i64 k1) rfl (by kernel_rfl) (by kernel_rfl) (by kernel_rfl) (fun _ _ _ h => h) (Or.inl ⟨by rfl, by intro wx hx; go_simp⟩) (by assumption) ?_
          try simp only [List.getElem_toArray, List.getElem_cons_succ, List.getElem_cons_zero, Act.put, List.setIfInBounds_toArray, List.set_cons_zero, List.set_cons_succ]
          refine wpAnyH_take (i := 2) (v := .slice du1 ws1.length mu1) rfl (by kernel_rfl) (by kernel_rfl) (by kernel_rfl) (fun _ _ _ h => h) (Or.inl ⟨by rfl, by intro wx hx; go_simp⟩) (by assumption) ?_
          try simp only [List.getElem_toArray, List.getElem_cons_succ, List.getElem_cons_zero, Act.put, List.setIfInBounds_toArray, List.set_cons_zero, List.set_cons_succ]
          refine wpAnyH_take (i := 3) (v := .slice (some ⟨bT, oT, none⟩) T.length mT) rfl (by kernel_rfl) (by kernel_rfl) (by kernel_rfl) (fun _ _ _ h => h) (Or.inl ⟨by rfl, by intro wx hx; go_simp⟩) (by assumption) ?_
          try simp only [List.getElem_toArray, List.getElem_cons_succ, List.getElem_cons_zero, Act.put, List.setIfInBounds_toArray, List.set_cons_zero, List.set_cons_succ]
          refine wpAnyH_take (i := 4) (v := .int .i64 i) rfl (by kernel_rfl) (by kernel_rfl) (by kernel_rfl) (fun _ _ _ h => h) (Or.inl ⟨by rfl, by intro wx hx; go_simp⟩) (by assumption) ?_
          try simp only [List.getElem_toArray, List.getElem_cons_succ, List.getElem_cons_zero, Act.put, List.setIfInBounds_toArray, List.set_cons_zero, List.set_cons_succ]
          refine wpAnyH_take (i := 5) (v := .pointer (some ⟨bT, oT + i, none⟩)) rfl (by kernel_rfl) (by kernel_rfl) (by kernel_rfl) (fun _ _ _ h => h) (Or.inl ⟨by rfl, by intro wx hx; go_simp⟩) (by assumption) ?_
          try simp only [List.getElem_toArray, List.getElem_cons_succ, List.getElem_cons_zero, Act.put, List.setIfInBounds_toArray, List.set_cons_zero, List.set_cons_succ]
          refine wpAnyH_take (i := 6) (v := .slice dE E.length mE) rfl (by kernel_rfl) (by kernel_rfl) (by kernel_rfl) (fun _ _ _ h => h) (Or.inl ⟨by rfl, by intro wx hx; obtain ⟨_, _⟩ := hx; go_simp⟩) (by assumption) ?_
          try simp only [List.getElem_toArray, List.getElem_cons_succ, List.getElem_cons_zero, Act.put, List.setIfInBounds_toArray, List.set_cons_zero, List.set_cons_succ]
          refine wpAnyH_ready (rs := [7]) (by kernel_rfl) (by simp) ?_
          refine AllReadyH.cons rfl (fun K hK => ?_) AllReadyH.nil
          go_simp
          have hmz := hm1.ext (e := Ext.trans eo ez)
          have hwz := hws1.ext (e := Ext.trans eo ez)
          have hiz := hiE.ext (e := Ext.trans eo ez)
          go_at_call 17
          with_reducible refine (implWorkOf_any (w0 := wz) (w := wz) hmz hwz hiz).mono ?_
          rw [hwv.out, ← hb1.out]
          rintro e w9 ⟨rfl, e9⟩
          have hS9 := hid (hSx.out w9 (Ext.trans ez e9))
          have own9 := own.ext (e := Ext.trans ez e9)
          have hb9 : Below B w11 w9 := hb.trans ((Ext.trans ez e9).below.mono hBo)
          have hB9 := hBs.out _ (hE.out _ hb9)
          clear hmz hwz hiz hSx hHeld0 own hb
          go_wp2_with fail
          refine hK.out _ _ hS9.out (fun _ => ?_)
          clear hK K
          try simp only [List.getElem_toArray, List.getElem_cons_succ, List.getElem_cons_zero, Act.put, List.setIfInBounds_toArray, List.set_cons_zero, List.set_cons_succ]
          refine wpAnyH_take (i := 8) (v := .tuple #[.int .i64 y, .bool b1]) rfl (by kernel_rfl) (by kernel_rfl) (by kernel_rfl) (fun _ _ _ h => h) (Or.inl ⟨by rfl, by intro wx hx; go_simp⟩) (by assumption) ?_
          try simp only [List.getElem_toArray, List.getElem_cons_succ, List.getElem_cons_zero, Act.put, List.setIfInBounds_toArray, List.set_cons_zero, List.set_cons_succ]
          refine wpAnyH_take (i := 9) (v := .int .i64 y) rfl (by kernel_rfl) (by kernel_rfl) (by kernel_rfl) (fun _ _ _ h => h) (Or.inl ⟨by rfl, by intro wx hx; go_simp⟩) (by assumption) ?_
          try simp only [List.getElem_toArray, List.getElem_cons_succ, List.getElem_cons_zero, Act.put, List.setIfInBounds_toArray, List.set_cons_zero, List.set_cons_succ]
          refine wpAnyH_take (i := 10) (v := .bool b1) rfl (by kernel_rfl) (by kernel_rfl) (by kernel_rfl) (fun _ _ _ h => h) (Or.inl ⟨by rfl, by intro wx hx; go_simp⟩) (by assumption) ?_
          try simp only [List.getElem_toArray, List.getElem_cons_succ, List.getElem_cons_zero, Act.put, List.setIfInBounds_toArray, List.set_cons_zero, List.set_cons_succ]
          refine wpAnyH_take (i := 11) (v := .int .i64 y) rfl (by kernel_rfl) (by kernel_rfl) (by kernel_rfl) (fun _ _ _ h => h) (Or.inl ⟨by rfl, by intro wx hx; go_simp⟩) (by assumption) ?_
          try simp only [List.getElem_toArray, List.getElem_cons_succ, List.getElem_cons_zero, Act.put, List.setIfInBounds_toArray, List.set_cons_zero, List.set_cons_succ]
          refine wpAnyH_take (i := 12) (v := .bool b1) rfl (by kernel_rfl) (by kernel_rfl) (by kernel_rfl) (fun _ _ _ h => h) (Or.inl ⟨by rfl, by intro wx hx; go_simp⟩) (by assumption) ?_
          try simp only [List.getElem_toArray, List.getElem_cons_succ, List.getElem_cons_zero, Act.put, List.setIfInBounds_toArray, List.set_cons_zero, List.set_cons_succ]
          refine wpAnyH_done (by kernel_rfl) ?_ _
          clear hS9
          go_wp2_with (at_builtin; refine wpList_append1 rfl _ _ _ rfl elemInt rfl own9 hB9 rfl rfl (by omega) (by omega) ?_; intro v7 w7 ho hb7)
          go_roundw
          case rel => exact ⟨i + 1, by omega, by go_num, by rw [htk.out]; exact ho, hb9.trans hb7⟩
          case measure => simp [intOf]; omega
        · have hie : i = T.length := by omega
          subst hie
          have hKT := sl1.out
          have hKr : IsInts wo (.slice dO T.length mO) K := by
            have h := own
            rw [hKT, List.take_length] at h
            have h2 : Own wo B [intRowOf 3 (.slice dO K.length mO) K] := h
            rw [hKT]
            exact h2.reads (by unfold Short; omega) (fun x hx => by have := sl6 x hx; unfold I64; omega)
          have hTo := hT1.ext (e := eo)
          have hmo := hm1.ext (e := eo)
          have x1o := eo.cell x1_11
          have x2o := eo.cell x2_11
          have hm2 := hm2.ext (e := eo)
          have hC2 := hC2.ext (e := eo)
          have hV2 := hV2.ext (e := eo)
          have hn1 := hn1.ext (e := eo)
          have hws1 := hws1.ext (e := eo)
          replace hKT := hid hKT
          clear own hb x1_11 x2_11 hT1 hT2 hm1
          go_wp2_with fail
          with_reducible refine (implFS_any (w0 := wo) (w := wo) hmo hTo hKr).mono ?_
          rw [sl3.out, sl4.out]
          rintro e w12 ⟨ag, rfl, hag, e12⟩
          obtain ⟨dag, mag, rfl, lag⟩ := hag.form
          have x2_12 := e12.cell x2o
          have hws1 := hws1.ext (w' := w12)
          have hm2 := hm2.ext (w' := w12)
          have hC2 := hC2.ext (w' := w12)
          have hV2 := hV2.ext (w' := w12)
          have hn1 := hn1.ext (w' := w12)
          have gw12 : Ext w w12 := Ext.trans (Ext.trans e1 g11) (Ext.trans eo e12)
          clear x1o x2o hmo hTo hKr
          go_wp2_with fail
          with_reducible refine (vInts_same (w0 := w12) (w := w12) hag hws1).mono ?_
          rintro e w13 ⟨rfl, e13⟩
          have x2_13 := e13.cell x2_12
          have hm2 := hm2.ext (w' := w13)
          have hC2 := hC2.ext (w' := w13)
          have hV2 := hV2.ext (w' := w13)
          have hn1 := hn1.ext (w' := w13)
          have gE : Ext w w13 := Ext.trans gw12 e13
          clear x2_12 hag hws1
          cases hF2 : fsB M2 C2 V2 with
          | false =>
            replace hF2 := hid hF2
            go_wp2_with fail
            go_loopw [23, 24, 25] (fun t _ _ wr => t = .int .i64 0 ∧ Ext w13 wr) (fun _ _ _ _ => 0)
            case atStart => exact ⟨rfl, Ext.refl _⟩
            case round =>
              obtain ⟨rfl, hy⟩ := hrel
              go_wp2_with fail
              go_ret
              exact ⟨rfl, Ext.trans gE hy⟩
          | true =>
            obtain ⟨hiw2, hwk2⟩ := fs_work hF2
            have hCl := (fs_all ((Bool.and_eq_true _ _).mp hF2).1).2.2.1
            have hVl := (fs_all ((Bool.and_eq_true _ _).mp hF2).1).2.2.2.1
            have hfr : fsR M2 C2 V2 = fsV M2 C2 V2 := by rw [fsR, hF2]; rfl
            rw [hfr] at hn1 ⊢
            obtain ⟨D2, hD2⟩ : ∃ q, q = fsV M2 C2 V2 := ⟨_, rfl⟩
            rw [← hD2] at hn1 hwk2 ⊢
            replace hF2 := hid hF2
            replace hD2 := hid hD2
            replace hwk2 := hid hwk2
            have hC0 := hid hCl.1
            have hVl' := hid hVl
            clear hiw2 hCl hVl hfr
            obtain ⟨bC, oC, dE0, mE0, hdC, hcE0, hiE0, hlE0⟩ := hC2.at (w' := w13) (k := 0) hC0.out
            subst hdC
            obtain ⟨R0, hR0⟩ : ∃ q, q = row C2 0 := ⟨_, rfl⟩
            rw [← hR0] at hwk2 hcE0 hiE0 hlE0
            replace hR0 := hid hR0
            go_wp2_with fail
            go_loopw [23, 24, 25] (fun tv _ _ wr => ∃ t : Nat, t ≤ C2.length ∧ tv = .int .i64 t ∧ Ext w13 wr) (fun tv _ _ _ => C2.length - (intOf tv).toNat)
            case atStart => exact ⟨0, by omega, rfl, Ext.refl _⟩
            case round =>
              obtain ⟨t, ht, rfl, hy⟩ := hrel
              obtain ⟨wq, rfl⟩ : ∃ y : World, y = wr := ⟨_, rfl⟩
              by_cases hlt : t < C2.length
              · obtain ⟨bC', oC', dE, mE, hdC', hcE, hiE, hlE⟩ := hC2.at (w' := wq) hlt
                cases hdC'
                obtain ⟨hwb, hwv⟩ := hwk2.out t hlt
                obtain ⟨E, hE⟩ : ∃ q, q = row C2 t := ⟨_, rfl⟩
                rw [← hE] at hcE hiE hlE hwb hwv
                replace hE := hid hE
                have hlV : t < V2.length := by rw [hVl'.out]; exact hlt
                obtain ⟨bV, oV, hdV, hcV⟩ := hV2.at (w' := wq) hlV
                subst hdV
                have hdec : decide (nth V2 t < woR M2 R0.length D2 E) = false := decide_eq_false (by omega)
                obtain ⟨y1, hy1⟩ : ∃ q, q = woR M2 R0.length D2 E := ⟨_, rfl⟩
                obtain ⟨y2, hy2⟩ : ∃ q, q = nth V2 t := ⟨_, rfl⟩
                rw [← hy1, ← hy2] at hdec
                rw [← hy2] at hcV
                replace hy1 := hid hy1
                replace hy2 := hid hy2
                replace hwb := hid hwb
                clear hwv
                go_upto_region 24 with fail
                have hSx := hid (show ∀ u, Ext wq u → u.cell? ⟨p2, 0, none⟩ = some (.slice f2 M2.length c2) ∧ u.cell? ⟨bC, oC, none⟩ = some (.slice dE0 R0.length mE0) ∧ u.cell? ⟨bC, oC + t, none⟩ = some (.slice dE E.length mE) from fun u e => ⟨(Ext.trans hy e).cell x2_13, (Ext.trans hy e).cell hcE0, e.cell hcE⟩)
                clear hcE
                refine region_held_from (w0 := wq) (S := fun u => u.cell? ⟨p2, 0, none⟩ = some (.slice f2 M2.length c2) ∧ u.cell? ⟨bC, oC, none⟩ = some (.slice dE0 R0.length mE0) ∧ u.cell? ⟨bC, oC + t, none⟩ = some (.slice dE E.length mE)) (by kernel_rfl) hSx.out (fun wz ez hHeld0 => ?_)
                have hCp : 0 < C2.length := hC0.out
                refine wpAnyH_take (i := 0) (v := .agg #[.slice f2 M2.length c2]) rfl (by kernel_rfl) (by kernel_rfl) (by kernel_rfl) (fun _ _ _ h => h) (Or.inl ⟨by rfl, by intro wx hx; obtain ⟨_, _, _⟩ := hx; go_simp⟩) (by assumption) ?_
                try simp only [List.getElem_toArray, List.getElem_cons_zero, Act.put, List.setIfInBounds_toArray, List.set_cons_zero, List.set_cons_succ]
                refine wpAnyH_take (i := 1) (v := .slice (some ⟨bC, oC, none⟩) C2.length mC) rfl (by kernel_rfl) (by kernel_rfl) (by kernel_rfl) (fun _ _ _ h => h) (Or.inl ⟨by rfl, by intro wx hx; go_simp⟩) (by assumption) ?_
                try simp only [List.getElem_toArray, List.getElem_cons_succ, List.getElem_cons_zero, Act.put, List.setIfInBounds_toArray, List.set_cons_zero, List.set_cons_succ]
                refine wpAnyH_take (i := 2) (v := .pointer (some ⟨bC, oC, none⟩)) rfl (by kernel_rfl) (by kernel_rfl) (by kernel_rfl) (fun _ _ _ h => h) (Or.inl ⟨by rfl, by intro wx hx; go_simp⟩) (by assumption) ?_
                try simp only [List.getElem_toArray, List.getElem_cons_succ, List.getElem_cons_zero, Act.put, List.setIfInBounds_toArray, List.set_cons_zero, List.set_cons_succ]
                refine wpAnyH_take (i := 3) (v := .slice dE0 R0.length mE0) rfl (by kernel_rfl) (by kernel_rfl) (by kernel_rfl) (fun _ _ _ h => h) (Or.inl ⟨by rfl, by intro wx hx; obtain ⟨_, _, _⟩ := hx; go_simp⟩) (by assumption) ?_
                try simp only [List.getElem_toArray, List.getElem_cons_succ, List.getElem_cons_zero, Act.put, List.setIfInBounds_toArray, List.set_cons_zero, List.set_cons_succ]
                refine wpAnyH_take (i := 4) (v := .int .i64 R0.length) rfl (by kernel_rfl) (by kernel_rfl) (by kernel_rfl) (fun _ _ _ h => h) (Or.inl ⟨by rfl, by intro wx hx; go_simp⟩) (by assumption) ?_
                try simp only [List.getElem_toArray, List.getElem_cons_succ, List.getElem_cons_zero, Act.put, List.setIfInBounds_toArray, List.set_cons_zero, List.set_cons_succ]
                refine wpAnyH_take (i := 5) (v := .slice dn1 D2.length mn1) rfl (by kernel_rfl) (by kernel_rfl) (by kernel_rfl) (fun _ _ _ h => h) (Or.inl ⟨by rfl, by intro wx hx; go_simp⟩) (by assumption) ?_
                try simp only [List.getElem_toArray, List.getElem_cons_succ, List.getElem_cons_zero, Act.put, List.setIfInBounds_toArray, List.set_cons_zero, List.set_cons_succ]
                refine wpAnyH_take (i := 6) (v := .slice (some ⟨bC, oC, none⟩) C2.length mC) rfl (by kernel_rfl) (by kernel_rfl) (by kernel_rfl) (fun _ _ _ h => h) (Or.inl ⟨by rfl, by intro wx hx; go_simp⟩) (by assumption) ?_
                try simp only [List.getElem_toArray, List.getElem_cons_succ, List.getElem_cons_zero, Act.put, List.setIfInBounds_toArray, List.set_cons_zero, List.set_cons_succ]
                refine wpAnyH_take (i := 7) (v := .int .i64 t) rfl (by kernel_rfl) (by kernel_rfl) (by kernel_rfl) (fun _ _ _ h => h) (Or.inl ⟨by rfl, by intro wx hx; go_simp⟩) (by assumption) ?_
                try simp only [List.getElem_toArray, List.getElem_cons_succ, List.getElem_cons_zero, Act.put, List.setIfInBounds_toArray, List.set_cons_zero, List.set_cons_succ]
                refine wpAnyH_take (i := 8) (v := .pointer (some ⟨bC, oC + t, none⟩)) rfl (by kernel_rfl) (by kernel_rfl) (by kernel_rfl) (fun _ _ _ h => h) (Or.inl ⟨by rfl, by intro wx hx; go_simp⟩) (by assumption) ?_
                try simp only [List.getElem_toArray, List.getElem_cons_succ, List.getElem_cons_zero, Act.put, List.setIfInBounds_toArray, List.set_cons_zero, List.set_cons_succ]
                refine wpAnyH_take (i := 9) (v := .slice dE E.length mE) rfl (by kernel_rfl) (by kernel_rfl) (by kernel_rfl) (fun _ _ _ h => h) (Or.inl ⟨by rfl, by intro wx hx; obtain ⟨_, _, _⟩ := hx; go_simp⟩) (by assumption) ?_
                try simp only [List.getElem_toArray, List.getElem_cons_succ, List.getElem_cons_zero, Act.put, List.setIfInBounds_toArray, List.set_cons_zero, List.set_cons_succ]
                refine wpAnyH_ready (rs := [10]) (by kernel_rfl) (by simp) ?_
                refine AllReadyH.cons rfl (fun K hK => ?_) AllReadyH.nil
                go_simp
                have hmz := hm2.ext (e := Ext.trans hy ez)
                have hnz := hn1.ext (e := Ext.trans hy ez)
                have hiz := hiE.ext (e := Ext.trans hy ez)
                go_at_call 17
                with_reducible refine (implWorkOf_any (w0 := wz) (w := wz) hmz hnz hiz).mono ?_
                rw [hwb.out, ← hy1.out]
                rintro e w9 ⟨rfl, e9⟩
                have hS9 := hid (hSx.out w9 (Ext.trans ez e9))
                have hyz : Ext w13 w9 := Ext.trans hy (Ext.trans ez e9)
                have hcV9 := (Ext.trans ez e9).cell hcV
                clear hmz hnz hiz hSx hHeld0 hcV
                go_wp2_with fail
                refine hK.out _ _ hS9.out (fun _ => ?_)
                clear hK K
                try simp only [List.getElem_toArray, List.getElem_cons_succ, List.getElem_cons_zero, Act.put, List.setIfInBounds_toArray, List.set_cons_zero, List.set_cons_succ]
                refine wpAnyH_take (i := 11) (v := .tuple #[.int .i64 y1, .bool true]) rfl (by kernel_rfl) (by kernel_rfl) (by kernel_rfl) (fun _ _ _ h => h) (Or.inl ⟨by rfl, by intro wx hx; go_simp⟩) (by assumption) ?_
                try simp only [List.getElem_toArray, List.getElem_cons_succ, List.getElem_cons_zero, Act.put, List.setIfInBounds_toArray, List.set_cons_zero, List.set_cons_succ]
                refine wpAnyH_take (i := 12) (v := .int .i64 y1) rfl (by kernel_rfl) (by kernel_rfl) (by kernel_rfl) (fun _ _ _ h => h) (Or.inl ⟨by rfl, by intro wx hx; go_simp⟩) (by assumption) ?_
                try simp only [List.getElem_toArray, List.getElem_cons_succ, List.getElem_cons_zero, Act.put, List.setIfInBounds_toArray, List.set_cons_zero, List.set_cons_succ]
                refine wpAnyH_take (i := 13) (v := .bool true) rfl (by kernel_rfl) (by kernel_rfl) (by kernel_rfl) (fun _ _ _ h => h) (Or.inl ⟨by rfl, by intro wx hx; go_simp⟩) (by assumption) ?_
                try simp only [List.getElem_toArray, List.getElem_cons_succ, List.getElem_cons_zero, Act.put, List.setIfInBounds_toArray, List.set_cons_zero, List.set_cons_succ]
                refine wpAnyH_take (i := 14) (v := .int .i64 y1) rfl (by kernel_rfl) (by kernel_rfl) (by kernel_rfl) (fun _ _ _ h => h) (Or.inl ⟨by rfl, by intro wx hx; go_simp⟩) (by assumption) ?_
                try simp only [List.getElem_toArray, List.getElem_cons_succ, List.getElem_cons_zero, Act.put, List.setIfInBounds_toArray, List.set_cons_zero, List.set_cons_succ]
                refine wpAnyH_take (i := 15) (v := .bool true) rfl (by kernel_rfl) (by kernel_rfl) (by kernel_rfl) (fun _ _ _ h => h) (Or.inl ⟨by rfl, by intro wx hx; go_simp⟩) (by assumption) ?_
                try simp only [List.getElem_toArray, List.getElem_cons_succ, List.getElem_cons_zero, Act.put, List.setIfInBounds_toArray, List.set_cons_zero, List.set_cons_succ]
                refine wpAnyH_done (by kernel_rfl) ?_ _
                clear hS9
                go_wp2_with fail
                go_roundw
                case rel => exact ⟨t + 1, by omega, by go_num, hyz⟩
                case measure => simp [intOf]; omega
              · have hte : t = C2.length := by omega
                subst hte
                go_wp2_with fail
                go_ret
                exact ⟨rfl, Ext.trans gE hy⟩
end Go.Proofs.Ytkibmjenjgijmaa
