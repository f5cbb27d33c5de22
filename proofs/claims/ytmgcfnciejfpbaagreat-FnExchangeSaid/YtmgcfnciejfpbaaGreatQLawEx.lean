/- 'laws.FnExchange': for every code the law returns true. -/
import Derived.Test.YtmgcfnciejfpbaaGreatQGrM
import Derived.Test.YtmgcfnciejfpbaaGreatQMtX
import Derived.Test.YtmgcfnciejfpbaaGreatQExJ
import Derived.Test.YtmgcfnciejfpbaaGreatQExT
import Derived.Test.YtmgcfnciejfpbaaGreatQQcQ
import Derived.Test.YtmgcfnciejfpbaaGreatQCut
import Derived.Test.YtmgcfnciejfpbaaGreatQGrN
namespace Go.Proofs.YtmgcfnciejfpbaaGreat
open Go.RowKit

/-- what the law asks of the work lists -/
theorem ex_law {M : List (List Int)} {a X : List Int} (h : srvB M a X = true) : (wlR M a X).length = X.length + 1 ∧ ∀ i, i < (wlR M a X).length → exbB M a.length (row (wlR M a X) i) = false := by
  rw [wlR_yes h, wlL_len]
  refine ⟨rfl, fun i hi => ?_⟩
  rw [wlL_row (by omega)]
  exact ex_never h (by omega)
set_option maxHeartbeats 3200000 in
set_option maxRecDepth 100000 in
theorem lawFnExchange_any {v : Value} {nb : Nat} {w : World} (hc : IsCode w v nb) :
    Calls Tryz.prog 8 #[v] w fun e w' => e = .returned (.bool true) ∧ Ext w w' := by
  have hc' := hc.bytes
  obtain ⟨ac, cc, rfl⟩ := hc'.form
  by_cases hbig : 65536 < nb
  · have hd := hid (decide_eq_true hbig)
    go_enter Tryz.func8, Tryz.ntmps8
    go_wp2_with fail
    refine (vBig_l hc').mono ?_
    rw [hd.out]
    rintro e w1 ⟨rfl, rfl⟩
    go_wp2_with fail
    go_ret
    exact ⟨rfl, Ext.refl _⟩
  · have hd := hid (decide_eq_false hbig)
    go_enter Tryz.func8, Tryz.ntmps8
    go_wp2_with fail
    refine (vBig_l hc').mono ?_
    rw [hd.out]
    rintro e w1 ⟨rfl, rfl⟩
    go_wp2_with fail
    refine (drawEB_any (w0 := w) (w := w) hc').mono ?_
    rintro e w1 ⟨fM, cM, u, M, k, ws, Z, rfl, hMok, hk1, hk2, hwl, ownZ, hZ, e1⟩
    obtain ⟨hm, hws⟩ := hZ.out _ _ ownZ
    have hki : I64 k := by unfold I64; omega
    obtain ⟨du, mu, rfl, lu⟩ := hws.form
    clear hZ ownZ
    go_upto_region 4 with fail
    have g2 : Ext w1 (w1.alloc (.cells #[.slice fM M.length cM] 26)) := inferInstance
    have x0_2 : (w1.alloc (.cells #[.slice fM M.length cM] 26)).cell? ⟨w1.heap.size, 0, none⟩ = some (.slice fM M.length cM) := by go_simp
    obtain ⟨p, hp⟩ : ∃ r, r = w1.heap.size := ⟨_, rfl⟩
    rw [← hp] at x0_2 ⊢
    replace hp := hid hp
    generalize w1.alloc (.cells #[.slice fM M.length cM] 26) = w2 at *
    obtain ⟨X1, hX1⟩ : ∃ q, q = exbX M k ws := ⟨_, rfl⟩
    obtain ⟨Y1, hY1⟩ : ∃ q, q = exbY M k ws := ⟨_, rfl⟩
    obtain ⟨P1, hP1⟩ : ∃ q, q = exbP M k ws := ⟨_, rfl⟩
    obtain ⟨Q1, hQ1⟩ : ∃ q, q = exbB M k ws := ⟨_, rfl⟩
    have hlen := exb_len (M := M) (k := k) (ws := ws)
    have hi64 := exb_i64 (M := M) (k := k) (ws := ws)
    rw [← hX1, ← hY1] at hlen hi64
    have hhas := hid (fun h => ex_has (M := M) (k := k) (ws := ws) h)
    rw [← hX1, ← hY1, ← hP1, ← hQ1] at hhas
    replace hX1 := hid hX1
    replace hY1 := hid hY1
    replace hP1 := hid hP1
    replace hQ1 := hid hQ1
    replace hi64 := hid hi64
    go_wp2_with fail
    with_reducible refine (implExb_any (w0 := w1) (w := w2) hm hki hws).mono ?_
    rw [← hX1.out, ← hY1.out, ← hP1.out, ← hQ1.out]
    rintro e w3 ⟨d0, m0, d1, m1, rfl, own3, e3⟩
    have hi0 : IsInts w3 (.slice d0 X1.length m0) X1 := own3.left.reads (by unfold Short; omega) hi64.out.1
    have hi1 : IsInts w3 (.slice d1 Y1.length m1) Y1 := own3.right.reads (by unfold Short; omega) hi64.out.2
    have x0_3 := e3.cell x0_2
    have g3 : Ext w1 w3 := Ext.trans g2 e3
    clear x0_2 own3
    go_wp2_with fail
    with_reducible refine (specExb_any (w0 := w1) (w := w3) hm hki hws).mono ?_
    rw [← hX1.out, ← hY1.out, ← hP1.out, ← hQ1.out]
    rintro e w4 ⟨d2, m2, d3, m3, rfl, hi2, hi3, e4⟩
    have hi0 := hi0.ext (w' := w4)
    have hi1 := hi1.ext (w' := w4)
    have g4 : Ext w1 w4 := Ext.trans g3 e4
    clear x0_3
    have hQQ : (Q1 != Q1) = false := by simp
    have hPP : (P1 != P1) = false := by simp
    go_wp2_with fail
    with_reducible refine (vInts_same (w0 := w4) (w := w4) hi0 hi2).mono ?_
    rintro e w5 ⟨rfl, e5⟩
    go_wp2_with fail
    with_reducible refine (vInts_same (w0 := w4) (w := w5) hi1 hi3).mono ?_
    rintro e w6 ⟨rfl, e6⟩
    have g46 : Ext w4 w6 := Ext.trans e5 e6
    have g6 : Ext w1 w6 := Ext.trans g4 g46
    have gw6 : Ext w w6 := Ext.trans e1 g6
    clear hQQ hPP hi2 hi3
    cases Q1 with
    | false =>
      clear hi0 hi1 hhas
      go_wp2_with fail
      refine (vCut_any (w0 := w) (w := w6) (n := 1) hc (by omega) (by omega)).mono ?_
      rintro e wc ⟨cv, nc, rfl, hcb, ec⟩
      have gc : Ext w1 wc := Ext.trans g6 ec
      obtain ⟨ac2, cc2, rfl⟩ := hcb.form
      go_wp2_with fail
      refine (drawWL_any (w0 := wc) (w := wc) hcb).mono ?_
      rintro e wd ⟨f2, c2, av, xv, M2, a, X, Z2, rfl, hMok2, hal, hXl, ownZ2, hZ2, ed⟩
      obtain ⟨hm2, ha2, hX2⟩ := hZ2.out _ _ ownZ2
      obtain ⟨da, ma, rfl, la⟩ := ha2.form
      obtain ⟨dx, mx, rfl, lx⟩ := hX2.form
      have gd : Ext w1 wd := Ext.trans gc ed
      clear hZ2 ownZ2
      go_upto_region 11 with fail
      have gb : Ext wd (wd.alloc (.cells #[.slice f2 M2.length c2] 26)) := inferInstance
      have x0b : (wd.alloc (.cells #[.slice f2 M2.length c2] 26)).cell? ⟨wd.heap.size, 0, none⟩ = some (.slice f2 M2.length c2) := by go_simp
      obtain ⟨p2, hp2⟩ : ∃ r, r = wd.heap.size := ⟨_, rfl⟩
      rw [← hp2] at x0b ⊢
      replace hp2 := hid hp2
      generalize wd.alloc (.cells #[.slice f2 M2.length c2] 26) = wb at *
      have gwb : Ext w1 wb := Ext.trans gd gb
      go_wp2_with fail
      with_reducible refine (implLists_any (w0 := wd) (w := wb) hm2 ha2 hX2).mono ?_
      rintro e wl ⟨uL, rfl, hL, el⟩
      have x0l := el.cell x0b
      have gdl : Ext wd wl := Ext.trans gb el
      have gwl : Ext w1 wl := Ext.trans gwb el
      clear x0b
      obtain ⟨dL, mL, rfl, lL⟩ := hL.form
      cases hQ2 : srvB M2 a X with
      | false =>
        generalize wlR M2 a X = L at *
        replace hQ2 := hid hQ2
        go_wp2_with fail
        go_loopw [19, 20, 21, 22, 23] (fun t _ _ _ _ wr => t = .int .i64 0 ∧ Ext wl wr) (fun _ _ _ _ _ _ => 0)
        case atStart => exact ⟨rfl, Ext.refl _⟩
        case round =>
          obtain ⟨rfl, hy⟩ := hrel
          go_wp2_with fail
          go_ret
          exact ⟨rfl, Ext.trans e1 (Ext.trans gwl hy)⟩
      | true =>
        obtain ⟨hLl, hnv⟩ := ex_law hQ2
        generalize wlR M2 a X = L at *
        replace hQ2 := hid hQ2
        replace hnv := hid hnv
        obtain ⟨bL, oL, dl0, ml0, hdL, _, _, _⟩ := hL.at (w' := wl) (k := 0) (by omega)
        subst hdL
        replace hLl := hid hLl
        go_wp2_with fail
        go_loopw [19, 20, 21, 22, 23] (fun tv _ _ _ _ wr => ∃ t : Nat, t ≤ L.length ∧ tv = .int .i64 t ∧ Ext wl wr) (fun tv _ _ _ _ _ => L.length - (intOf tv).toNat)
        case atStart => exact ⟨0, by omega, rfl, Ext.refl _⟩
        case round =>
          obtain ⟨t, ht, rfl, hy⟩ := hrel
          obtain ⟨wq, rfl⟩ : ∃ y : World, y = wr := ⟨_, rfl⟩
          by_cases hlt : t < L.length
          · obtain ⟨bL', oL', dl, ml, hdL', hcl, hil, hEl⟩ := hL.at (w' := wq) hlt
            cases hdL'
            have hno := hnv.out t hlt
            obtain ⟨E, hE⟩ : ∃ q, q = row L t := ⟨_, rfl⟩
            rw [← hE] at hcl hil hEl hno
            replace hE := hid hE
            have xq := hy.cell x0l
            have gdq : Ext wd wq := Ext.trans gdl hy
            have hka : I64 (a.length : Int) := by unfold I64; omega
            go_upto_region 15 with fail
            have hSx := hid (show ∀ u, Ext wq u → u.cell? ⟨p2, 0, none⟩ = some (.slice f2 M2.length c2) ∧ u.cell? ⟨bL, oL + t, none⟩ = some (.slice dl E.length ml) from fun u e => ⟨e.cell xq, e.cell hcl⟩)
            clear xq hcl
            refine region_held_from (w0 := wq) (S := fun u => u.cell? ⟨p2, 0, none⟩ = some (.slice f2 M2.length c2) ∧ u.cell? ⟨bL, oL + t, none⟩ = some (.slice dl E.length ml)) (by kernel_rfl) hSx.out (fun wz ez hHeld0 => ?_)
            have gdz : Ext wd wz := Ext.trans gdq ez
            refine wpAnyH_take (i := 0) (v := .agg #[.slice f2 M2.length c2]) rfl (by kernel_rfl) (by kernel_rfl) (by kernel_rfl) (fun _ _ _ h => h) (Or.inl ⟨by rfl, by intro wx hx; obtain ⟨_, _⟩ := hx; go_simp⟩) (by assumption) ?_
            try simp only [List.getElem_toArray, List.getElem_cons_zero, Act.put, List.setIfInBounds_toArray, List.set_cons_zero, List.set_cons_succ]
            refine wpAnyH_take (i := 1) (v := .slice da a.length ma) rfl (by kernel_rfl) (by kernel_rfl) (by kernel_rfl) (fun _ _ _ h => h) (Or.inl ⟨by rfl, by intro wx hx; go_simp⟩) (by assumption) ?_
            try simp only [List.getElem_toArray, List.getElem_cons_succ, List.getElem_cons_zero, Act.put, List.setIfInBounds_toArray, List.set_cons_zero, List.set_cons_succ]
            refine wpAnyH_take (i := 2) (v := .int .i64 a.length) rfl (by kernel_rfl) (by kernel_rfl) (by kernel_rfl) (fun _ _ _ h => h) (Or.inl ⟨by rfl, by intro wx hx; go_simp⟩) (by assumption) ?_
            try simp only [List.getElem_toArray, List.getElem_cons_succ, List.getElem_cons_zero, Act.put, List.setIfInBounds_toArray, List.set_cons_zero, List.set_cons_succ]
            refine wpAnyH_take (i := 3) (v := .slice (some ⟨bL, oL, none⟩) L.length mL) rfl (by kernel_rfl) (by kernel_rfl) (by kernel_rfl) (fun _ _ _ h => h) (Or.inl ⟨by rfl, by intro wx hx; go_simp⟩) (by assumption) ?_
            try simp only [List.getElem_toArray, List.getElem_cons_succ, List.getElem_cons_zero, Act.put, List.setIfInBounds_toArray, List.set_cons_zero, List.set_cons_succ]
            refine wpAnyH_take (i := 4) (v := .int .i64 t) rfl (by kernel_rfl) (by kernel_rfl) (by kernel_rfl) (fun _ _ _ h => h) (Or.inl ⟨by rfl, by intro wx hx; go_simp⟩) (by assumption) ?_
            try simp only [List.getElem_toArray, List.getElem_cons_succ, List.getElem_cons_zero, Act.put, List.setIfInBounds_toArray, List.set_cons_zero, List.set_cons_succ]
            refine wpAnyH_take (i := 5) (v := .pointer (some ⟨bL, oL + t, none⟩)) rfl (by kernel_rfl) (by kernel_rfl) (by kernel_rfl) (fun _ _ _ h => h) (Or.inl ⟨by rfl, by intro wx hx; go_simp⟩) (by assumption) ?_
            try simp only [List.getElem_toArray, List.getElem_cons_succ, List.getElem_cons_zero, Act.put, List.setIfInBounds_toArray, List.set_cons_zero, List.set_cons_succ]
            refine wpAnyH_take (i := 6) (v := .slice dl E.length ml) rfl (by kernel_rfl) (by kernel_rfl) (by kernel_rfl) (fun _ _ _ h => h) (Or.inl ⟨by rfl, by intro wx hx; obtain ⟨_, _⟩ := hx; go_simp⟩) (by assumption) ?_
            try simp only [List.getElem_toArray, List.getElem_cons_succ, List.getElem_cons_zero, Act.put, List.setIfInBounds_toArray, List.set_cons_zero, List.set_cons_succ]
            refine wpAnyH_ready (rs := [7]) (by kernel_rfl) (by simp) ?_
            refine AllReadyH.cons rfl (fun K hK => ?_) AllReadyH.nil
            go_simp
            have hmz := hm2.ext (w' := wz)
            have hiz := hil.ext (e := Ext.trans hy ez)
            go_at_call 54
            with_reducible refine (implExb_any (w0 := wz) (w := wz) hmz hka hiz).mono ?_
            rw [hno]
            rintro e w9 ⟨d0, m0, d1, m1, rfl, _, e9⟩
            generalize exbX M2 a.length E = X9 at *
            generalize exbY M2 a.length E = Y9 at *
            generalize exbP M2 a.length E = P9 at *
            have hS9 := hSx.out w9 (Ext.trans ez e9)
            have hyz : Ext wl w9 := Ext.trans hy (Ext.trans ez e9)
            clear hmz hiz hSx hHeld0 hno
            go_wp2_with fail
            refine hK.out _ _ hS9 (fun _ => ?_)
            clear hK K
            try simp only [List.getElem_toArray, List.getElem_cons_succ, List.getElem_cons_zero, Act.put, List.setIfInBounds_toArray, List.set_cons_zero, List.set_cons_succ]
            refine wpAnyH_take (i := 8) (v := .tuple #[.slice d0 X9.length m0, .slice d1 Y9.length m1, .int .i64 P9, .bool false]) rfl (by kernel_rfl) (by kernel_rfl) (by kernel_rfl) (fun _ _ _ h => h) (Or.inl ⟨by rfl, by intro wx hx; go_simp⟩) (by assumption) ?_
            try simp only [List.getElem_toArray, List.getElem_cons_succ, List.getElem_cons_zero, Act.put, List.setIfInBounds_toArray, List.set_cons_zero, List.set_cons_succ]
            refine wpAnyH_take (i := 9) (v := .slice d0 X9.length m0) rfl (by kernel_rfl) (by kernel_rfl) (by kernel_rfl) (fun _ _ _ h => h) (Or.inl ⟨by rfl, by intro wx hx; go_simp⟩) (by assumption) ?_
            try simp only [List.getElem_toArray, List.getElem_cons_succ, List.getElem_cons_zero, Act.put, List.setIfInBounds_toArray, List.set_cons_zero, List.set_cons_succ]
            refine wpAnyH_take (i := 10) (v := .slice d1 Y9.length m1) rfl (by kernel_rfl) (by kernel_rfl) (by kernel_rfl) (fun _ _ _ h => h) (Or.inl ⟨by rfl, by intro wx hx; go_simp⟩) (by assumption) ?_
            try simp only [List.getElem_toArray, List.getElem_cons_succ, List.getElem_cons_zero, Act.put, List.setIfInBounds_toArray, List.set_cons_zero, List.set_cons_succ]
            refine wpAnyH_take (i := 11) (v := .int .i64 P9) rfl (by kernel_rfl) (by kernel_rfl) (by kernel_rfl) (fun _ _ _ h => h) (Or.inl ⟨by rfl, by intro wx hx; go_simp⟩) (by assumption) ?_
            try simp only [List.getElem_toArray, List.getElem_cons_succ, List.getElem_cons_zero, Act.put, List.setIfInBounds_toArray, List.set_cons_zero, List.set_cons_succ]
            refine wpAnyH_take (i := 12) (v := .bool false) rfl (by kernel_rfl) (by kernel_rfl) (by kernel_rfl) (fun _ _ _ h => h) (Or.inl ⟨by rfl, by intro wx hx; go_simp⟩) (by assumption) ?_
            try simp only [List.getElem_toArray, List.getElem_cons_succ, List.getElem_cons_zero, Act.put, List.setIfInBounds_toArray, List.set_cons_zero, List.set_cons_succ]
            refine wpAnyH_take (i := 13) (v := .slice d0 X9.length m0) rfl (by kernel_rfl) (by kernel_rfl) (by kernel_rfl) (fun _ _ _ h => h) (Or.inl ⟨by rfl, by intro wx hx; go_simp⟩) (by assumption) ?_
            try simp only [List.getElem_toArray, List.getElem_cons_succ, List.getElem_cons_zero, Act.put, List.setIfInBounds_toArray, List.set_cons_zero, List.set_cons_succ]
            refine wpAnyH_take (i := 14) (v := .slice d1 Y9.length m1) rfl (by kernel_rfl) (by kernel_rfl) (by kernel_rfl) (fun _ _ _ h => h) (Or.inl ⟨by rfl, by intro wx hx; go_simp⟩) (by assumption) ?_
            try simp only [List.getElem_toArray, List.getElem_cons_succ, List.getElem_cons_zero, Act.put, List.setIfInBounds_toArray, List.set_cons_zero, List.set_cons_succ]
            refine wpAnyH_take (i := 15) (v := .int .i64 P9) rfl (by kernel_rfl) (by kernel_rfl) (by kernel_rfl) (fun _ _ _ h => h) (Or.inl ⟨by rfl, by intro wx hx; go_simp⟩) (by assumption) ?_
            try simp only [List.getElem_toArray, List.getElem_cons_succ, List.getElem_cons_zero, Act.put, List.setIfInBounds_toArray, List.set_cons_zero, List.set_cons_succ]
            refine wpAnyH_take (i := 16) (v := .bool false) rfl (by kernel_rfl) (by kernel_rfl) (by kernel_rfl) (fun _ _ _ h => h) (Or.inl ⟨by rfl, by intro wx hx; go_simp⟩) (by assumption) ?_
            try simp only [List.getElem_toArray, List.getElem_cons_succ, List.getElem_cons_zero, Act.put, List.setIfInBounds_toArray, List.set_cons_zero, List.set_cons_succ]
            refine wpAnyH_done (by kernel_rfl) ?_ _
            clear hS9
            go_wp2_with fail
            go_roundw
            case rel => exact ⟨t + 1, by omega, by go_num, hyz⟩
            case measure => simp [intOf]; omega
          · go_wp2_with fail
            go_ret
            exact ⟨rfl, Ext.trans e1 (Ext.trans gwl hy)⟩
    | true =>
      have hh := hid (hhas.out rfl)
      go_wp2_with fail
      with_reducible refine (vHas_any (w0 := w4) (w := w6) hi0).mono ?_
      rw [hh.out.1]
      rintro e w7 ⟨rfl, rfl⟩
      go_wp2_with fail
      with_reducible refine (vHas_any (w0 := w4) (w := w6) hi1).mono ?_
      rw [hh.out.2]
      rintro e w7 ⟨rfl, rfl⟩
      clear hi0 hi1 hhas hh
      go_wp2_with fail
      refine (vCut_any (w0 := w) (w := w6) (n := 1) hc (by omega) (by omega)).mono ?_
      rintro e wc ⟨cv, nc, rfl, hcb, ec⟩
      have gc : Ext w1 wc := Ext.trans g6 ec
      obtain ⟨ac2, cc2, rfl⟩ := hcb.form
      go_wp2_with fail
      refine (drawWL_any (w0 := wc) (w := wc) hcb).mono ?_
      rintro e wd ⟨f2, c2, av, xv, M2, a, X, Z2, rfl, hMok2, hal, hXl, ownZ2, hZ2, ed⟩
      obtain ⟨hm2, ha2, hX2⟩ := hZ2.out _ _ ownZ2
      obtain ⟨da, ma, rfl, la⟩ := ha2.form
      obtain ⟨dx, mx, rfl, lx⟩ := hX2.form
      have gd : Ext w1 wd := Ext.trans gc ed
      clear hZ2 ownZ2
      go_upto_region 11 with fail
      have gb : Ext wd (wd.alloc (.cells #[.slice f2 M2.length c2] 26)) := inferInstance
      have x0b : (wd.alloc (.cells #[.slice f2 M2.length c2] 26)).cell? ⟨wd.heap.size, 0, none⟩ = some (.slice f2 M2.length c2) := by go_simp
      obtain ⟨p2, hp2⟩ : ∃ r, r = wd.heap.size := ⟨_, rfl⟩
      rw [← hp2] at x0b ⊢
      replace hp2 := hid hp2
      generalize wd.alloc (.cells #[.slice f2 M2.length c2] 26) = wb at *
      have gwb : Ext w1 wb := Ext.trans gd gb
      go_wp2_with fail
      with_reducible refine (implLists_any (w0 := wd) (w := wb) hm2 ha2 hX2).mono ?_
      rintro e wl ⟨uL, rfl, hL, el⟩
      have x0l := el.cell x0b
      have gdl : Ext wd wl := Ext.trans gb el
      have gwl : Ext w1 wl := Ext.trans gwb el
      clear x0b
      obtain ⟨dL, mL, rfl, lL⟩ := hL.form
      cases hQ2 : srvB M2 a X with
      | false =>
        generalize wlR M2 a X = L at *
        replace hQ2 := hid hQ2
        go_wp2_with fail
        go_loopw [19, 20, 21, 22, 23] (fun t _ _ _ _ wr => t = .int .i64 0 ∧ Ext wl wr) (fun _ _ _ _ _ _ => 0)
        case atStart => exact ⟨rfl, Ext.refl _⟩
        case round =>
          obtain ⟨rfl, hy⟩ := hrel
          go_wp2_with fail
          go_ret
          exact ⟨rfl, Ext.trans e1 (Ext.trans gwl hy)⟩
      | true =>
        obtain ⟨hLl, hnv⟩ := ex_law hQ2
        generalize wlR M2 a X = L at *
        replace hQ2 := hid hQ2
        replace hnv := hid hnv
        obtain ⟨bL, oL, dl0, ml0, hdL, _, _, _⟩ := hL.at (w' := wl) (k := 0) (by omega)
        subst hdL
        replace hLl := hid hLl
        go_wp2_with fail
        go_loopw [19, 20, 21, 22, 23] (fun tv _ _ _ _ wr => ∃ t : Nat, t ≤ L.length ∧ tv = .int .i64 t ∧ Ext wl wr) (fun tv _ _ _ _ _ => L.length - (intOf tv).toNat)
        case atStart => exact ⟨0, by omega, rfl, Ext.refl _⟩
        case round =>
          obtain ⟨t, ht, rfl, hy⟩ := hrel
          obtain ⟨wq, rfl⟩ : ∃ y : World, y = wr := ⟨_, rfl⟩
          by_cases hlt : t < L.length
          · obtain ⟨bL', oL', dl, ml, hdL', hcl, hil, hEl⟩ := hL.at (w' := wq) hlt
            cases hdL'
            have hno := hnv.out t hlt
            obtain ⟨E, hE⟩ : ∃ q, q = row L t := ⟨_, rfl⟩
            rw [← hE] at hcl hil hEl hno
            replace hE := hid hE
            have xq := hy.cell x0l
            have gdq : Ext wd wq := Ext.trans gdl hy
            have hka : I64 (a.length : Int) := by unfold I64; omega
            go_upto_region 15 with fail
            have hSx := hid (show ∀ u, Ext wq u → u.cell? ⟨p2, 0, none⟩ = some (.slice f2 M2.length c2) ∧ u.cell? ⟨bL, oL + t, none⟩ = some (.slice dl E.length ml) from fun u e => ⟨e.cell xq, e.cell hcl⟩)
            clear xq hcl
            refine region_held_from (w0 := wq) (S := fun u => u.cell? ⟨p2, 0, none⟩ = some (.slice f2 M2.length c2) ∧ u.cell? ⟨bL, oL + t, none⟩ = some (.slice dl E.length ml)) (by kernel_rfl) hSx.out (fun wz ez hHeld0 => ?_)
            have gdz : Ext wd wz := Ext.trans gdq ez
            refine wpAnyH_take (i := 0) (v := .agg #[.slice f2 M2.length c2]) rfl (by kernel_rfl) (by kernel_rfl) (by kernel_rfl) (fun _ _ _ h => h) (Or.inl ⟨by rfl, by intro wx hx; obtain ⟨_, _⟩ := hx; go_simp⟩) (by assumption) ?_
            try simp only [List.getElem_toArray, List.getElem_cons_zero, Act.put, List.setIfInBounds_toArray, List.set_cons_zero, List.set_cons_succ]
            refine wpAnyH_take (i := 1) (v := .slice da a.length ma) rfl (by kernel_rfl) (by kernel_rfl) (by kernel_rfl) (fun _ _ _ h => h) (Or.inl ⟨by rfl, by intro wx hx; go_simp⟩) (by assumption) ?_
            try simp only [List.getElem_toArray, List.getElem_cons_succ, List.getElem_cons_zero, Act.put, List.setIfInBounds_toArray, List.set_cons_zero, List.set_cons_succ]
            refine wpAnyH_take (i := 2) (v := .int .i64 a.length) rfl (by kernel_rfl) (by kernel_rfl) (by kernel_rfl) (fun _ _ _ h => h) (Or.inl ⟨by rfl, by intro wx hx; go_simp⟩) (by assumption) ?_
            try simp only [List.getElem_toArray, List.getElem_cons_succ, List.getElem_cons_zero, Act.put, List.setIfInBounds_toArray, List.set_cons_zero, List.set_cons_succ]
            refine wpAnyH_take (i := 3) (v := .slice (some ⟨bL, oL, none⟩) L.length mL) rfl (by kernel_rfl) (by kernel_rfl) (by kernel_rfl) (fun _ _ _ h => h) (Or.inl ⟨by rfl, by intro wx hx; go_simp⟩) (by assumption) ?_
            try simp only [List.getElem_toArray, List.getElem_cons_succ, List.getElem_cons_zero, Act.put, List.setIfInBounds_toArray, List.set_cons_zero, List.set_cons_succ]
            refine wpAnyH_take (i := 4) (v := .int .i64 t) rfl (by kernel_rfl) (by kernel_rfl) (by kernel_rfl) (fun _ _ _ h => h) (Or.inl ⟨by rfl, by intro wx hx; go_simp⟩) (by assumption) ?_
            try simp only [List.getElem_toArray, List.getElem_cons_succ, List.getElem_cons_zero, Act.put, List.setIfInBounds_toArray, List.set_cons_zero, List.set_cons_succ]
            refine wpAnyH_take (i := 5) (v := .pointer (some ⟨bL, oL + t, none⟩)) rfl (by kernel_rfl) (by kernel_rfl) (by kernel_rfl) (fun _ _ _ h => h) (Or.inl ⟨by rfl, by intro wx hx; go_simp⟩) (by assumption) ?_
            try simp only [List.getElem_toArray, List.getElem_cons_succ, List.getElem_cons_zero, Act.put, List.setIfInBounds_toArray, List.set_cons_zero, List.set_cons_succ]
            refine wpAnyH_take (i := 6) (v := .slice dl E.length ml) rfl (by kernel_rfl) (by kernel_rfl) (by kernel_rfl) (fun _ _ _ h => h) (Or.inl ⟨by rfl, by intro wx hx; obtain ⟨_, _⟩ := hx; go_simp⟩) (by assumption) ?_
            try simp only [List.getElem_toArray, List.getElem_cons_succ, List.getElem_cons_zero, Act.put, List.setIfInBounds_toArray, List.set_cons_zero, List.set_cons_succ]
            refine wpAnyH_ready (rs := [7]) (by kernel_rfl) (by simp) ?_
            refine AllReadyH.cons rfl (fun K hK => ?_) AllReadyH.nil
            go_simp
            have hmz := hm2.ext (w' := wz)
            have hiz := hil.ext (e := Ext.trans hy ez)
            go_at_call 54
            with_reducible refine (implExb_any (w0 := wz) (w := wz) hmz hka hiz).mono ?_
            rw [hno]
            rintro e w9 ⟨d0, m0, d1, m1, rfl, _, e9⟩
            generalize exbX M2 a.length E = X9 at *
            generalize exbY M2 a.length E = Y9 at *
            generalize exbP M2 a.length E = P9 at *
            have hS9 := hSx.out w9 (Ext.trans ez e9)
            have hyz : Ext wl w9 := Ext.trans hy (Ext.trans ez e9)
            clear hmz hiz hSx hHeld0 hno
            go_wp2_with fail
            refine hK.out _ _ hS9 (fun _ => ?_)
            clear hK K
            try simp only [List.getElem_toArray, List.getElem_cons_succ, List.getElem_cons_zero, Act.put, List.setIfInBounds_toArray, List.set_cons_zero, List.set_cons_succ]
            refine wpAnyH_take (i := 8) (v := .tuple #[.slice d0 X9.length m0, .slice d1 Y9.length m1, .int .i64 P9, .bool false]) rfl (by kernel_rfl) (by kernel_rfl) (by kernel_rfl) (fun _ _ _ h => h) (Or.inl ⟨by rfl, by intro wx hx; go_simp⟩) (by assumption) ?_
            try simp only [List.getElem_toArray, List.getElem_cons_succ, List.getElem_cons_zero, Act.put, List.setIfInBounds_toArray, List.set_cons_zero, List.set_cons_succ]
            refine wpAnyH_take (i := 9) (v := .slice d0 X9.length m0) rfl (by kernel_rfl) (by kernel_rfl) (by kernel_rfl) (fun _ _ _ h => h) (Or.inl ⟨by rfl, by intro wx hx; go_simp⟩) (by assumption) ?_
            try simp only [List.getElem_toArray, List.getElem_cons_succ, List.getElem_cons_zero, Act.put, List.setIfInBounds_toArray, List.set_cons_zero, List.set_cons_succ]
            refine wpAnyH_take (i := 10) (v := .slice d1 Y9.length m1) rfl (by kernel_rfl) (by kernel_rfl) (by kernel_rfl) (fun _ _ _ h => h) (Or.inl ⟨by rfl, by intro wx hx; go_simp⟩) (by assumption) ?_
            try simp only [List.getElem_toArray, List.getElem_cons_succ, List.getElem_cons_zero, Act.put, List.setIfInBounds_toArray, List.set_cons_zero, List.set_cons_succ]
            refine wpAnyH_take (i := 11) (v := .int .i64 P9) rfl (by kernel_rfl) (by kernel_rfl) (by kernel_rfl) (fun _ _ _ h => h) (Or.inl ⟨by rfl, by intro wx hx; go_simp⟩) (by assumption) ?_
            try simp only [List.getElem_toArray, List.getElem_cons_succ, List.getElem_cons_zero, Act.put, List.setIfInBounds_toArray, List.set_cons_zero, List.set_cons_succ]
            refine wpAnyH_take (i := 12) (v := .bool false) rfl (by kernel_rfl) (by kernel_rfl) (by kernel_rfl) (fun _ _ _ h => h) (Or.inl ⟨by rfl, by intro wx hx; go_simp⟩) (by assumption) ?_
            try simp only [List.getElem_toArray, List.getElem_cons_succ, List.getElem_cons_zero, Act.put, List.setIfInBounds_toArray, List.set_cons_zero, List.set_cons_succ]
            refine wpAnyH_take (i := 13) (v := .slice d0 X9.length m0) rfl (by kernel_rfl) (by kernel_rfl) (by kernel_rfl) (fun _ _ _ h => h) (Or.inl ⟨by rfl, by intro wx hx; go_simp⟩) (by assumption) ?_
            try simp only [List.getElem_toArray, List.getElem_cons_succ, List.getElem_cons_zero, Act.put, List.setIfInBounds_toArray, List.set_cons_zero, List.set_cons_succ]
            refine wpAnyH_take (i := 14) (v := .slice d1 Y9.length m1) rfl (by kernel_rfl) (by kernel_rfl) (by kernel_rfl) (fun _ _ _ h => h) (Or.inl ⟨by rfl, by intro wx hx; go_simp⟩) (by assumption) ?_
            try simp only [List.getElem_toArray, List.getElem_cons_succ, List.getElem_cons_zero, Act.put, List.setIfInBounds_toArray, List.set_cons_zero, List.set_cons_succ]
            refine wpAnyH_take (i := 15) (v := .int .i64 P9) rfl (by kernel_rfl) (by kernel_rfl) (by kernel_rfl) (fun _ _ _ h => h) (Or.inl ⟨by rfl, by intro wx hx; go_simp⟩) (by assumption) ?_
            try simp only [List.getElem_toArray, List.getElem_cons_succ, List.getElem_cons_zero, Act.put, List.setIfInBounds_toArray, List.set_cons_zero, List.set_cons_succ]
            refine wpAnyH_take (i := 16) (v := .bool false) rfl (by kernel_rfl) (by kernel_rfl) (by kernel_rfl) (fun _ _ _ h => h) (Or.inl ⟨by rfl, by intro wx hx; go_simp⟩) (by assumption) ?_
            try simp only [List.getElem_toArray, List.getElem_cons_succ, List.getElem_cons_zero, Act.put, List.setIfInBounds_toArray, List.set_cons_zero, List.set_cons_succ]
            refine wpAnyH_done (by kernel_rfl) ?_ _
            clear hS9
            go_wp2_with fail
            go_roundw
            case rel => exact ⟨t + 1, by omega, by go_num, hyz⟩
            case measure => simp [intOf]; omega
          · go_wp2_with fail
            go_ret
            exact ⟨rfl, Ext.trans e1 (Ext.trans gwl hy)⟩
end Go.Proofs.YtmgcfnciejfpbaaGreat
