/- 'laws.FnWorkAlgorithm': for every code the law returns true. -/
import Derived.Test.YtmgcfnciejfpbaaGreatRGrM
import Derived.Test.YtmgcfnciejfpbaaGreatRMtY
import Derived.Test.YtmgcfnciejfpbaaGreatRGwW
import Derived.Test.YtmgcfnciejfpbaaGreatRWaP
import Derived.Test.YtmgcfnciejfpbaaGreatRWkJ
import Derived.Test.YtmgcfnciejfpbaaGreatRGrN
import Derived.Test.YtmgcfnciejfpbaaGreatRCut
namespace Go.Proofs.YtmgcfnciejfpbaaGreat
open Go.RowKit

theorem wo_in2 {M : List (List Int)} {k : Int} {ws c : List Int} : 0 ≤ woR M k ws c ∧ woR M k ws c ≤ 99999 := by
  rw [woR]
  split
  · rename_i h
    simp only [woB, Bool.and_eq_true, decide_eq_true_eq] at h
    obtain ⟨h1, h2, h3⟩ := h
    simp only [iwB, Bool.and_eq_true] at h1
    obtain ⟨_, hk1, hk3⟩ := askB_iff.1 h1.1
    have hm := wo_mem (k := k.toNat) h2 (by omega)
    have := (work_good h1.2).2 _ (atR_lt hm).1
    omega
  · omega
theorem gw_in {M : List (List Int)} {k : Int} {ws : List Int} {r : Int} : 0 ≤ gwR M k ws r ∧ gwR M k ws r ≤ 99999 := by
  rw [gwR]
  split
  · rename_i h
    obtain ⟨g1, _, g3⟩ := grw_spec (ws := ws) (nx := stL M k ws r) (stL M k ws r).length
    refine ⟨g1, ?_⟩
    rcases g3 with g3 | ⟨j, hj, g3⟩
    · omega
    · have h' := h
      rw [stB, Bool.and_eq_true] at h'
      obtain ⟨hM, ⟨hk1, hk3⟩, hrr, hwb⟩ := giv_parts h'.1
      have hg := work_good hwb
      have e : stL M k ws r = wnxL M (confs M.length k.toNat 0) ws r := by rw [stL, if_pos h]
      rw [e] at hj g3
      have hb := belowB_at h'.2 hj
      rw [wnxL_len] at hj
      have := hg.2 j (by rw [← hg.1.1]; exact hj)
      rw [e]
      omega
  · omega
theorem gs_in {M : List (List Int)} {a X : List Int} : ∀ i, 0 ≤ gsTo M a X i ∧ gsTo M a X i ≤ 99999 * i
  | 0 => by simp [gsTo]
  | i + 1 => by
    have h1 := gs_in (M := M) (a := a) (X := X) i
    have h2 := gw_in (M := M) (k := a.length) (ws := row (wlR M a X) i) (r := nth X i)
    rw [gsTo]
    omega
theorem rr_in {M : List (List Int)} {a X : List Int} (h : srvB M a X = true) : 0 ≤ rrS M a X ∧ rrS M a X ≤ 6000 := by
  obtain ⟨hd, hk, ha, hX, hl⟩ := srv_all h
  have := (rn_conf hd hk.1 hk.2 ha hX (by omega) X.length (Nat.le_refl _)).2
  rw [rrS, if_pos h]
  omega
theorem wsvC_i64 {M : List (List Int)} {k : Int} {ws a : List Int} {r : Int} : (wsvC M k ws a r).length ≤ 3 ∧ ∀ x ∈ wsvC M k ws a r, I64 x := by
  cases h : wsvB M k ws a r with
  | false => rw [(wsv_no h).1]; exact ⟨by simp, fun x hx => by simp at hx⟩
  | true =>
    rw [(wsv_yes h).1]
    simp only [wsvB, stB, Bool.and_eq_true, decide_eq_true_eq] at h
    obtain ⟨⟨h1, _⟩, h2, h3⟩ := h
    obtain ⟨hM, hk, hr, hw⟩ := giv_parts h1
    obtain ⟨_, _, hm, _⟩ := wa_step (dst_of_met hM) (k := k.toNat) (by omega) (by omega) (work_good hw) (by omega) hr (cfg_conf h2 (by omega))
    obtain ⟨g1, g2⟩ := conf_pts hm
    have := met_len hM
    exact ⟨by omega, fun x hx => by have := g2 x hx; unfold I64; omega⟩
theorem rrT_i64 {M : List (List Int)} {a X : List Int} : ShortRows (rrT M a X).length ∧ (∀ r ∈ rrT M a X, Short r.length) ∧ ∀ r ∈ rrT M a X, ∀ x ∈ r, I64 x := by
  cases h : srvB M a X with
  | false => rw [(rr_no h).1]; exact ⟨by unfold ShortRows; simp, fun r hr => by simp at hr, fun r hr => by simp at hr⟩
  | true =>
    obtain ⟨hd, hk, ha, hX, hl⟩ := srv_all h
    have hM : metB M = true := by simp only [srvB, Bool.and_eq_true] at h; exact h.1
    have hm := rnT_mem hd hk.1 hk.2 ha hX (by omega) (i := X.length) (Nat.le_refl _)
    have hMl := met_len hM
    rw [rrT, if_pos h]
    refine ⟨by unfold ShortRows; rw [rnT_len]; omega, fun r hr => ?_, fun r hr x hx => ?_⟩
    · obtain ⟨g1, g2⟩ := conf_pts (hm r hr)
      unfold Short
      omega
    · obtain ⟨g1, g2⟩ := conf_pts (hm r hr)
      have := g2 x hx
      unfold I64
      omega
set_option maxHeartbeats 6400000 in
set_option maxRecDepth 100000 in
theorem lawFnWorkAlgorithm_any {v : Value} {nb : Nat} {w : World} (hc : IsCode w v nb) :
    Calls Tryz.prog 7 #[v] w fun e w' => e = .returned (.bool true) ∧ Ext w w' := by
  have hc' := hc.bytes
  obtain ⟨ac, cc, rfl⟩ := hc'.form
  by_cases hbig : 65536 < nb
  · have hd := hid (decide_eq_true hbig)
    go_enter Tryz.func7, Tryz.ntmps7
    go_wp2_with fail
    refine (vBig_l hc').mono ?_
    rw [hd.out]
    rintro e w1 ⟨rfl, rfl⟩
    go_wp2_with fail
    go_ret
    exact ⟨rfl, Ext.refl _⟩
  · have hd := hid (decide_eq_false hbig)
    go_enter Tryz.func7, Tryz.ntmps7
    go_wp2_with fail
    refine (vBig_l hc').mono ?_
    rw [hd.out]
    rintro e w1 ⟨rfl, rfl⟩
    go_wp2_with fail
    refine (drawWV_any (w0 := w) (w := w) hc').mono ?_
    rintro e w1 ⟨f1, c1, u1, M1, k1, ws1, av1, a1, r1, Z1, rfl, hMok1, hk11, hk12, hwl1, hal1, hr11, hr12, ownZ1, hZ1, e1⟩
    obtain ⟨hm1, hws1, ha1⟩ := hZ1.out _ _ ownZ1
    obtain ⟨du1, mu1, rfl, lu1⟩ := hws1.form
    obtain ⟨da1, ma1, rfl, la1⟩ := ha1.form
    have hki1 : I64 k1 := by unfold I64; omega
    have hri1 : I64 r1 := by unfold I64; omega
    clear hZ1 ownZ1
    go_upto_region 4 with fail
    have gb1 : Ext w1 (w1.alloc (.cells #[.slice f1 M1.length c1] 26)) := inferInstance
    have xb1 : (w1.alloc (.cells #[.slice f1 M1.length c1] 26)).cell? ⟨w1.heap.size, 0, none⟩ = some (.slice f1 M1.length c1) := by go_simp
    obtain ⟨p1, hp1⟩ : ∃ r, r = w1.heap.size := ⟨_, rfl⟩
    rw [← hp1] at xb1 ⊢
    replace hp1 := hid hp1
    generalize w1.alloc (.cells #[.slice f1 M1.length c1] 26) = w2 at *
    obtain ⟨C1, hC1⟩ : ∃ q, q = wsvC M1 k1 ws1 a1 r1 := ⟨_, rfl⟩
    obtain ⟨K1, hK1⟩ : ∃ q, q = wsvK M1 k1 ws1 a1 r1 := ⟨_, rfl⟩
    obtain ⟨W1, hW1⟩ : ∃ q, q = wsvB M1 k1 ws1 a1 r1 := ⟨_, rfl⟩
    have hhas := hid (fun h => wsv_has (M := M1) (k := k1) (ws := ws1) (a := a1) (r := r1) h)
    have hCi := hid (wsvC_i64 (M := M1) (k := k1) (ws := ws1) (a := a1) (r := r1))
    rw [← hC1, ← hW1] at hhas
    rw [← hC1] at hCi
    replace hC1 := hid hC1
    replace hK1 := hid hK1
    replace hW1 := hid hW1
    go_wp2_with fail
    with_reducible refine (implWsv_any (w0 := w1) (w := w2) hm1 hki1 hws1 ha1 hri1).mono ?_
    rw [← hC1.out, ← hK1.out, ← hW1.out]
    rintro e w3 ⟨d3, m3, rfl, own3, e3⟩
    have hc1i : IsInts w3 (.slice d3 C1.length m3) C1 := own3.reads (by unfold Short; have := hCi.out.1; omega) hCi.out.2
    have xb3 := e3.cell xb1
    have g3 : Ext w1 w3 := Ext.trans gb1 e3
    clear xb1 own3
    go_wp2_with fail
    with_reducible refine (specWsv_any (w0 := w1) (w := w3) hm1 hki1 hws1 ha1 hri1).mono ?_
    rw [← hC1.out, ← hK1.out, ← hW1.out]
    rintro e w4 ⟨d4, m4, rfl, hc2i, e4⟩
    have g4 : Ext w1 w4 := Ext.trans g3 e4
    have gw4 : Ext w w4 := Ext.trans e1 g4
    have hc1i := hc1i.ext (w' := w4)
    clear xb3 hm1 hws1 ha1 hC1 hK1 hW1
    go_wp2_with fail
    refine (vCut_any (w0 := w) (w := w4) (n := 1) hc (by omega) (by omega)).mono ?_
    rintro e w21 ⟨cv5, nc5, rfl, hcb5, e21⟩
    obtain ⟨a5', c5', rfl⟩ := hcb5.form
    go_wp2_with fail
    refine (drawWR_any (w0 := w21) (w := w21) hcb5).mono ?_
    rintro e w22 ⟨f5, c5, bv, xv, M5, b, X, Z5, rfl, hMok5, hbl5, hXl5, ownZ5, hZ5, e22⟩
    obtain ⟨hm5, hb5, hX5⟩ := hZ5.out _ _ ownZ5
    obtain ⟨db, mb, rfl, lb⟩ := hb5.form
    obtain ⟨dX, mX, rfl, lX⟩ := hX5.form
    have g422 : Ext w4 w22 := Ext.trans e21 e22
    clear hZ5 ownZ5 hcb5
    go_upto_region 7 with fail
    have gb5 : Ext w22 (w22.alloc (.cells #[.slice f5 M5.length c5] 26)) := inferInstance
    have xb5 : (w22.alloc (.cells #[.slice f5 M5.length c5] 26)).cell? ⟨w22.heap.size, 0, none⟩ = some (.slice f5 M5.length c5) := by go_simp
    obtain ⟨p5, hp5⟩ : ∃ r, r = w22.heap.size := ⟨_, rfl⟩
    rw [← hp5] at xb5 ⊢
    replace hp5 := hid hp5
    generalize w22.alloc (.cells #[.slice f5 M5.length c5] 26) = w23 at *
    obtain ⟨B5, hB5⟩ : ∃ q, q = srvB M5 b X := ⟨_, rfl⟩
    have hbl1 := hid (show srvB M5 b X = true → 1 ≤ b.length from fun h => (srv_all h).2.1.1)
    have hTok := hid (rrT_i64 (M := M5) (a := b) (X := X))
    replace hB5 := hid hB5
    go_wp2_with fail
    with_reducible refine (implRun_any (w0 := w22) (w := w23) hm5 hb5 hX5).mono ?_
    rintro e w24 ⟨dT, mT, vs, rfl, hvs, ownT, e24⟩
    have hTi : IsRows w24 (.slice dT (rrT M5 b X).length mT) (rrT M5 b X) := Own.readsAll (e1 := 27) (e2 := 3) (vs := vs) (R := []) (by rw [List.append_nil]; exact ownT) hvs hTok.out.1 hTok.out.2.1 hTok.out.2.2
    have xb24 := e24.cell xb5
    have g2224 : Ext w22 w24 := Ext.trans gb5 e24
    clear xb5 ownT
    go_wp2_with fail
    with_reducible refine (specRun_any (w0 := w22) (w := w24) hm5 hb5 hX5).mono ?_
    rintro e w25 ⟨dT2, mT2, rfl, hTi2, e25⟩
    have xb25 := e25.cell xb24
    have g2225 : Ext w22 w25 := Ext.trans g2224 e25
    have hTi := hTi.ext (w' := w25)
    have hc1i := hc1i.ext (e := Ext.trans g422 g2225)
    have hc2i := hc2i.ext (e := Ext.trans g422 g2225)
    have g25 : Ext w1 w25 := Ext.trans g4 (Ext.trans g422 g2225)
    clear xb24
    have q1 : (W1 != W1) = false := by simp
    have q2 : (K1 != K1) = false := by simp
    have q3 : (srvB M5 b X != srvB M5 b X) = false := by simp
    have q4 : (rrS M5 b X != rrS M5 b X) = false := by simp
    go_wp2_with fail
    with_reducible refine (vInts_same (w0 := w25) (w := w25) hc1i hc2i).mono ?_
    rintro e w26 ⟨rfl, e26⟩
    go_wp2_with fail
    with_reducible refine (vTable_l (w0 := w25) (w := w26) hTi hTi2).mono ?_
    rintro e w27 ⟨rfl, e27⟩
    have g2527 : Ext w25 w27 := Ext.trans e26 e27
    have xb27 := g2527.cell xb25
    have g27 : Ext w1 w27 := Ext.trans g25 g2527
    have g2227 : Ext w22 w27 := Ext.trans g2225 g2527
    have hTi := hTi.ext (w' := w27)
    have hc1i := hc1i.ext (e := g2527)
    clear xb25 hTi2 hc2i q1 q2 q3 q4
    cases W1 with
    | false =>
      clear hc1i hhas
      cases hQ5 : srvB M5 b X with
      | false =>
        replace hQ5 := hid hQ5
        go_wp2_with fail
        go_ret
        exact ⟨rfl, Ext.trans e1 g27⟩
      | true =>
        obtain ⟨hTl, hsm, hsr, hls, hone, hsum, hwsv⟩ := wa_law hQ5
        have hLl := hid (wl_all hQ5).1
        have hrb := rr_in hQ5
        have hlb := least_in hQ5
        obtain ⟨A0, hA0⟩ : ∃ f : Nat → List Int, f = fun i => rnA M5 (confs M5.length b.length 0) b X i := ⟨_, rfl⟩
        have hA0z := hid (show A0 0 = b by rw [hA0]; rfl)
        have hwsv' := hid (show ∀ i, i < X.length → wsvC M5 b.length (row (wlR M5 b X) i) (A0 i) (nth X i) = A0 (i + 1) ∧ row (rrT M5 b X) i = A0 (i + 1) from fun i hi => by rw [hA0]; exact hwsv i hi)
        have hsum' : rrS M5 b X + woR M5 b.length (row (wlR M5 b X) X.length) (A0 X.length) ≤ gsTo M5 b X X.length := by rw [hA0]; exact hsum
        clear hwsv hsum hA0
        obtain ⟨S5, hS5⟩ : ∃ z, z = rrS M5 b X := ⟨_, rfl⟩
        obtain ⟨K5, hK5⟩ : ∃ z, z = lwR M5 b X := ⟨_, rfl⟩
        have hgsn := hid (fun (i : Nat) => show gsTo M5 b X (i + 1) = gsTo M5 b X i + gwR M5 b.length (row (wlR M5 b X) i) (nth X i) from rfl)
        rw [← hS5] at hsr hls hone hrb hsum' ⊢
        rw [← hK5] at hls hone hlb
        obtain ⟨T5, hT5⟩ : ∃ z, z = rrT M5 b X := ⟨_, rfl⟩
        rw [← hT5] at hTl hsm hsr hwsv' hTi ⊢
        replace hS5 := hid hS5
        replace hK5 := hid hK5
        replace hT5 := hid hT5
        replace hQ5 := hid hQ5
        replace hsm := hid hsm
        replace hsr := hid hsr
        replace hls := hid hls
        replace hone := hid hone
        replace hsum' := hid hsum'
        replace hTl := hid hTl
        replace hrb := hid hrb
        replace hlb := hid hlb
        go_wp2_with fail
        with_reducible refine (implLists_any (w0 := w22) (w := w27) hm5 hb5 hX5).mono ?_
        rw [hQ5.out]
        rintro e w24 ⟨uL, rfl, hL, e24⟩
        obtain ⟨dL, mL, rfl, lL⟩ := hL.form
        have x5_24 := e24.cell xb27
        have g2224 : Ext w22 w24 := Ext.trans g2227 e24
        have hTi24 := hTi.ext (w' := w24)
        have hm24 := hm5.ext (e := g2224)
        have hb24 := hb5.ext (e := g2224)
        have hX24 := hX5.ext (e := g2224)
        go_wp2_with fail
        with_reducible refine (implSM_any (w0 := w24) (w := w24) hm24 hb24 hX24 hTi24).mono ?_
        rw [hsm.out, hsr.out]
        rintro e w25 ⟨rfl, e25⟩
        have x5_25 := e25.cell x5_24
        have g2225 : Ext w22 w25 := Ext.trans g2224 e25
        have g25 : Ext w1 w25 := Ext.trans g27 (Ext.trans e24 e25)
        have hL := hL.ext (w' := w25)
        have hT25 := hTi24.ext (w' := w25)
        have hb25 := hb24.ext (w' := w25)
        clear x5_24 hTi24 hTi hm24 hb24 hX24
        obtain ⟨gs, hgs⟩ : ∃ f : Nat → Int, f = fun i => gsTo M5 b X i := ⟨_, rfl⟩
        have hgb := hid (fun (i : Nat) => gs_in (M := M5) (a := b) (X := X) i)
        have hgs0 := hid (show gs 0 = 0 by rw [hgs]; rfl)
        have hgsn' := hid (show ∀ i, gs (i + 1) = gs i + gwR M5 b.length (row (wlR M5 b X) i) (nth X i) from fun i => by rw [hgs]; rfl)
        have hgb' := hid (show ∀ i, 0 ≤ gs i ∧ gs i ≤ 99999 * i from fun i => by rw [hgs]; exact hgb.out i)
        have hsum2 := hid (show S5 + woR M5 b.length (row (wlR M5 b X) X.length) (A0 X.length) ≤ gs X.length by rw [hgs]; exact hsum'.out)
        clear hgs hgb hgsn hsum'
        generalize wlR M5 b X = L at *
        obtain ⟨bL, oL, dl0, ml0, hdL, _, _, _⟩ := hL.at (w' := w25) (k := 0) (by have := hLl.out; omega)
        subst hdL
        have hLlid := hLl
        clear hLl
        go_wp2_with fail
        go_loopw [27, 28, 29, 30, 31, 32, 33, 34] (fun gv nv tv _ _ _ _ _ wr => ∃ (t : Nat) (nz : Value), t ≤ X.length ∧ tv = .int .i64 t ∧ gv = .int .i64 (gs t) ∧ nz = nv ∧ IsInts wr nz (A0 t) ∧ Ext w25 wr) (fun _ _ tv _ _ _ _ _ _ => X.length - (intOf tv).toNat)
        case atStart => exact ⟨0, _, by omega, rfl, by rw [hgs0.out], rfl, by rw [hA0z.out]; exact hb25, Ext.refl _⟩
        case round =>
          obtain ⟨t, nz, ht, rfl, rfl, rfl, hnow, hy⟩ := hrel
          obtain ⟨wq, rfl⟩ : ∃ y : World, y = wr := ⟨_, rfl⟩
          have hgt := hgb'.out t
          by_cases hlt : t < X.length
          · have htL : t < L.length := by have := hLlid.out; omega
            have htT : t < T5.length := by rw [hTl.out]; exact hlt
            obtain ⟨bL', oL', dl, ml, hdL', hcl, hil, hEl⟩ := hL.at (w' := wq) htL
            cases hdL'
            obtain ⟨bX, oX, hdX, hcX⟩ := hX5.at (e := Ext.trans g2225 hy) (w' := wq) hlt
            subst hdX
            obtain ⟨bT, oT, dt, mt, hdT, hcT, hiT, hET⟩ := hT25.at (w' := wq) htT
            subst hdT
            obtain ⟨hws1, hws2⟩ := hwsv'.out t hlt
            have hgn := hgsn'.out t
            have hgt2 := hgb'.out (t + 1)
            obtain ⟨NW, hNW⟩ : ∃ q, q = A0 t := ⟨_, rfl⟩
            rw [← hNW] at hnow hws1
            obtain ⟨dn, mn, hnz, ln⟩ := hnow.form
            subst hnz
            obtain ⟨A2, hA2⟩ : ∃ q, q = A0 (t + 1) := ⟨_, rfl⟩
            rw [← hA2] at hws1 hws2
            rw [hws2] at hcT hiT hET
            obtain ⟨E, hE⟩ : ∃ q, q = row L t := ⟨_, rfl⟩
            rw [← hE] at hcl hil hEl hws1 hgn
            obtain ⟨r5, hr5⟩ : ∃ q, q = nth X t := ⟨_, rfl⟩
            rw [← hr5] at hcX hws1 hgn
            have hri : I64 r5 := by rw [hr5]; exact hX5.i64 hlt
            have hki : I64 (b.length : Int) := by unfold I64; omega
            obtain ⟨g5, hg5⟩ : ∃ q, q = gwR M5 b.length E r5 := ⟨_, rfl⟩
            rw [← hg5] at hgn
            obtain ⟨g6, hg6⟩ : ∃ q, q = gs (t + 1) := ⟨_, rfl⟩
            rw [← hg6] at hgn hgt2
            obtain ⟨P5, hP5⟩ : ∃ q, q = stB M5 b.length E r5 := ⟨_, rfl⟩
            obtain ⟨K9, hK9⟩ : ∃ q, q = wsvK M5 b.length E NW r5 := ⟨_, rfl⟩
            obtain ⟨W9, hW9⟩ : ∃ q, q = wsvB M5 b.length E NW r5 := ⟨_, rfl⟩
            have hAi := hid (show A2.length ≤ 3 ∧ ∀ x ∈ A2, I64 x by rw [← hws1]; exact wsvC_i64)
            generalize gs t = g4 at *
            have hadd : IntKind.i64.wrap (g4 + g5) = g6 := by rw [hgn]; exact IntWalk.i64_in _ (by omega)
            replace hE := hid hE
            replace hr5 := hid hr5
            replace hg5 := hid hg5
            replace hg6 := hid hg6
            replace hP5 := hid hP5
            replace hK9 := hid hK9
            replace hW9 := hid hW9
            replace hws1 := hid hws1
            replace hws2 := hid hws2
            replace hgn := hid hgn
            replace hNW := hid hNW
            replace hA2 := hid hA2
            have hX0 := hid (show wq.cell? ⟨p5, 0, none⟩ = some (.slice f5 M5.length c5) ∧ wq.cell? ⟨bL, oL + t, none⟩ = some (.slice dl E.length ml) ∧ wq.cell? ⟨bX, oX + t, none⟩ = some (.int .i64 r5) from ⟨hy.cell x5_25, hcl, hcX⟩)
            clear hcl hcX
            go_upto_region 22 with fail
            have hSx := hid (show ∀ u, Ext wq u → u.cell? ⟨p5, 0, none⟩ = some (.slice f5 M5.length c5) ∧ u.cell? ⟨bL, oL + t, none⟩ = some (.slice dl E.length ml) ∧ u.cell? ⟨bX, oX + t, none⟩ = some (.int .i64 r5) from fun u e => ⟨e.cell hX0.out.1, e.cell hX0.out.2.1, e.cell hX0.out.2.2⟩)
            refine region_held_from (w0 := wq) (S := fun u => u.cell? ⟨p5, 0, none⟩ = some (.slice f5 M5.length c5) ∧ u.cell? ⟨bL, oL + t, none⟩ = some (.slice dl E.length ml) ∧ u.cell? ⟨bX, oX + t, none⟩ = some (.int .i64 r5)) (by kernel_rfl) hSx.out (fun wz ez hHeld0 => ?_)
            refine wpAnyH_take (i := 0) (v := .agg #[.slice f5 M5.length c5]) rfl (by kernel_rfl) (by kernel_rfl) (by kernel_rfl) (fun _ _ _ h => h) (Or.inl ⟨by rfl, by intro wx hx; obtain ⟨_, _, _⟩ := hx; go_simp⟩) (by assumption) ?_
            try simp only [List.getElem_toArray, List.getElem_cons_zero, Act.put, List.setIfInBounds_toArray, List.set_cons_zero, List.set_cons_succ]
            refine wpAnyH_take (i := 1) (v := .slice db b.length mb) rfl (by kernel_rfl) (by kernel_rfl) (by kernel_rfl) (fun _ _ _ h => h) (Or.inl ⟨by rfl, by intro wx hx; go_simp⟩) (by assumption) ?_
            try simp only [List.getElem_toArray, List.getElem_cons_succ, List.getElem_cons_zero, Act.put, List.setIfInBounds_toArray, List.set_cons_zero, List.set_cons_succ]
            refine wpAnyH_take (i := 2) (v := .int .i64 b.length) rfl (by kernel_rfl) (by kernel_rfl) (by kernel_rfl) (fun _ _ _ h => h) (Or.inl ⟨by rfl, by intro wx hx; go_simp⟩) (by assumption) ?_
            try simp only [List.getElem_toArray, List.getElem_cons_succ, List.getElem_cons_zero, Act.put, List.setIfInBounds_toArray, List.set_cons_zero, List.set_cons_succ]
            refine wpAnyH_take (i := 3) (v := .slice (some ⟨bL, oL, none⟩) L.length mL) rfl (by kernel_rfl) (by kernel_rfl) (by kernel_rfl) (fun _ _ _ h => h) (Or.inl ⟨by rfl, by intro wx hx; go_simp⟩) (by assumption) ?_
            try simp only [List.getElem_toArray, List.getElem_cons_succ, List.getElem_cons_zero, Act.put, List.setIfInBounds_toArray, List.set_cons_zero, List.set_cons_succ]
            refine wpAnyH_take (i := 4) (v := .int .i64 t) rfl (by kernel_rfl) (by kernel_rfl) (by kernel_rfl) (fun _ _ _ h => h) (Or.inl ⟨by rfl, by intro wx hx; go_simp⟩) (by assumption) ?_
            try simp only [List.getElem_toArray, List.getElem_cons_succ, List.getElem_cons_zero, Act.put, List.setIfInBounds_toArray, List.set_cons_zero, List.set_cons_succ]
            refine wpAnyH_take (i := 5) (v := .pointer (some ⟨bL, oL + t, none⟩)) rfl (by kernel_rfl) (by kernel_rfl) (by kernel_rfl) (fun _ _ _ h => h) (Or.inl ⟨by rfl, by intro wx hx; go_simp⟩) (by assumption) ?_
            try simp only [List.getElem_toArray, List.getElem_cons_succ, List.getElem_cons_zero, Act.put, List.setIfInBounds_toArray, List.set_cons_zero, List.set_cons_succ]
            refine wpAnyH_take (i := 6) (v := .slice dl E.length ml) rfl (by kernel_rfl) (by kernel_rfl) (by kernel_rfl) (fun _ _ _ h => h) (Or.inl ⟨by rfl, by intro wx hx; obtain ⟨_, _, _⟩ := hx; go_simp⟩) (by assumption) ?_
            try simp only [List.getElem_toArray, List.getElem_cons_succ, List.getElem_cons_zero, Act.put, List.setIfInBounds_toArray, List.set_cons_zero, List.set_cons_succ]
            refine wpAnyH_take (i := 7) (v := .slice (some ⟨bX, oX, none⟩) X.length mX) rfl (by kernel_rfl) (by kernel_rfl) (by kernel_rfl) (fun _ _ _ h => h) (Or.inl ⟨by rfl, by intro wx hx; go_simp⟩) (by assumption) ?_
            try simp only [List.getElem_toArray, List.getElem_cons_succ, List.getElem_cons_zero, Act.put, List.setIfInBounds_toArray, List.set_cons_zero, List.set_cons_succ]
            refine wpAnyH_take (i := 8) (v := .int .i64 t) rfl (by kernel_rfl) (by kernel_rfl) (by kernel_rfl) (fun _ _ _ h => h) (Or.inl ⟨by rfl, by intro wx hx; go_simp⟩) (by assumption) ?_
            try simp only [List.getElem_toArray, List.getElem_cons_succ, List.getElem_cons_zero, Act.put, List.setIfInBounds_toArray, List.set_cons_zero, List.set_cons_succ]
            refine wpAnyH_take (i := 9) (v := .pointer (some ⟨bX, oX + t, none⟩)) rfl (by kernel_rfl) (by kernel_rfl) (by kernel_rfl) (fun _ _ _ h => h) (Or.inl ⟨by rfl, by intro wx hx; go_simp⟩) (by assumption) ?_
            try simp only [List.getElem_toArray, List.getElem_cons_succ, List.getElem_cons_zero, Act.put, List.setIfInBounds_toArray, List.set_cons_zero, List.set_cons_succ]
            refine wpAnyH_take (i := 10) (v := .int .i64 r5) rfl (by kernel_rfl) (by kernel_rfl) (by kernel_rfl) (fun _ _ _ h => h) (Or.inl ⟨by rfl, by intro wx hx; obtain ⟨_, _, _⟩ := hx; go_simp⟩) (by assumption) ?_
            try simp only [List.getElem_toArray, List.getElem_cons_succ, List.getElem_cons_zero, Act.put, List.setIfInBounds_toArray, List.set_cons_zero, List.set_cons_succ]
            refine wpAnyH_ready (rs := [11]) (by kernel_rfl) (by simp) ?_
            refine AllReadyH.cons rfl (fun K hK => ?_) AllReadyH.nil
            go_simp
            have hmz := hm5.ext (e := Ext.trans (Ext.trans g2225 hy) ez)
            have hiz := hil.ext (e := Ext.trans hy ez)
            go_at_call 52
            with_reducible refine (implGrowth_any (w0 := wz) (w := wz) hmz hiz).mono ?_
            rw [← hg5.out, ← hP5.out]
            rintro e w9 ⟨rfl, e9⟩
            have hX1 := hid (hSx.out w9 (Ext.trans ez e9))
            have hy9 : Ext w25 w9 := Ext.trans hy (Ext.trans ez e9)
            have hnow9 := hnow.ext (e := Ext.trans ez e9)
            have hcT9 := (Ext.trans ez e9).cell hcT
            clear hmz hiz hSx hHeld0 hcT
            go_wp2_with fail
            refine hK.out _ _ hX1.out (fun _ => ?_)
            clear hK K
            try simp only [List.getElem_toArray, List.getElem_cons_succ, List.getElem_cons_zero, Act.put, List.setIfInBounds_toArray, List.set_cons_zero, List.set_cons_succ]
            refine wpAnyH_take (i := 12) (v := .tuple #[.int .i64 g5, .bool P5]) rfl (by kernel_rfl) (by kernel_rfl) (by kernel_rfl) (fun _ _ _ h => h) (Or.inl ⟨by rfl, by intro wx hx; go_simp⟩) (by assumption) ?_
            try simp only [List.getElem_toArray, List.getElem_cons_succ, List.getElem_cons_zero, Act.put, List.setIfInBounds_toArray, List.set_cons_zero, List.set_cons_succ]
            refine wpAnyH_take (i := 13) (v := .int .i64 g5) rfl (by kernel_rfl) (by kernel_rfl) (by kernel_rfl) (fun _ _ _ h => h) (Or.inl ⟨by rfl, by intro wx hx; go_simp⟩) (by assumption) ?_
            try simp only [List.getElem_toArray, List.getElem_cons_succ, List.getElem_cons_zero, Act.put, List.setIfInBounds_toArray, List.set_cons_zero, List.set_cons_succ]
            refine wpAnyH_take (i := 14) (v := .bool P5) rfl (by kernel_rfl) (by kernel_rfl) (by kernel_rfl) (fun _ _ _ h => h) (Or.inl ⟨by rfl, by intro wx hx; go_simp⟩) (by assumption) ?_
            try simp only [List.getElem_toArray, List.getElem_cons_succ, List.getElem_cons_zero, Act.put, List.setIfInBounds_toArray, List.set_cons_zero, List.set_cons_succ]
            refine wpAnyH_take (i := 15) (v := .int .i64 g5) rfl (by kernel_rfl) (by kernel_rfl) (by kernel_rfl) (fun _ _ _ h => h) (Or.inl ⟨by rfl, by intro wx hx; go_simp⟩) (by assumption) ?_
            try simp only [List.getElem_toArray, List.getElem_cons_succ, List.getElem_cons_zero, Act.put, List.setIfInBounds_toArray, List.set_cons_zero, List.set_cons_succ]
            refine wpAnyH_take (i := 16) (v := .bool P5) rfl (by kernel_rfl) (by kernel_rfl) (by kernel_rfl) (fun _ _ _ h => h) (Or.inl ⟨by rfl, by intro wx hx; go_simp⟩) (by assumption) ?_
            try simp only [List.getElem_toArray, List.getElem_cons_succ, List.getElem_cons_zero, Act.put, List.setIfInBounds_toArray, List.set_cons_zero, List.set_cons_succ]
            refine wpAnyH_done (by kernel_rfl) ?_ _
            clear ez hnow
            go_upto_region 24 with fail
            have hSx := hid (show ∀ u, Ext w9 u → u.cell? ⟨p5, 0, none⟩ = some (.slice f5 M5.length c5) ∧ u.cell? ⟨bL, oL + t, none⟩ = some (.slice dl E.length ml) ∧ u.cell? ⟨bX, oX + t, none⟩ = some (.int .i64 r5) from fun u e => ⟨e.cell hX1.out.1, e.cell hX1.out.2.1, e.cell hX1.out.2.2⟩)
            refine region_held_from (w0 := w9) (S := fun u => u.cell? ⟨p5, 0, none⟩ = some (.slice f5 M5.length c5) ∧ u.cell? ⟨bL, oL + t, none⟩ = some (.slice dl E.length ml) ∧ u.cell? ⟨bX, oX + t, none⟩ = some (.int .i64 r5)) (by kernel_rfl) hSx.out (fun wy ez hHeld0 => ?_)
            refine wpAnyH_take (i := 0) (v := .agg #[.slice f5 M5.length c5]) rfl (by kernel_rfl) (by kernel_rfl) (by kernel_rfl) (fun _ _ _ h => h) (Or.inl ⟨by rfl, by intro wx hx; obtain ⟨_, _, _⟩ := hx; go_simp⟩) (by assumption) ?_
            try simp only [List.getElem_toArray, List.getElem_cons_zero, Act.put, List.setIfInBounds_toArray, List.set_cons_zero, List.set_cons_succ]
            refine wpAnyH_take (i := 1) (v := .slice db b.length mb) rfl (by kernel_rfl) (by kernel_rfl) (by kernel_rfl) (fun _ _ _ h => h) (Or.inl ⟨by rfl, by intro wx hx; go_simp⟩) (by assumption) ?_
            try simp only [List.getElem_toArray, List.getElem_cons_succ, List.getElem_cons_zero, Act.put, List.setIfInBounds_toArray, List.set_cons_zero, List.set_cons_succ]
            refine wpAnyH_take (i := 2) (v := .int .i64 b.length) rfl (by kernel_rfl) (by kernel_rfl) (by kernel_rfl) (fun _ _ _ h => h) (Or.inl ⟨by rfl, by intro wx hx; go_simp⟩) (by assumption) ?_
            try simp only [List.getElem_toArray, List.getElem_cons_succ, List.getElem_cons_zero, Act.put, List.setIfInBounds_toArray, List.set_cons_zero, List.set_cons_succ]
            refine wpAnyH_take (i := 3) (v := .slice (some ⟨bL, oL, none⟩) L.length mL) rfl (by kernel_rfl) (by kernel_rfl) (by kernel_rfl) (fun _ _ _ h => h) (Or.inl ⟨by rfl, by intro wx hx; go_simp⟩) (by assumption) ?_
            try simp only [List.getElem_toArray, List.getElem_cons_succ, List.getElem_cons_zero, Act.put, List.setIfInBounds_toArray, List.set_cons_zero, List.set_cons_succ]
            refine wpAnyH_take (i := 4) (v := .int .i64 t) rfl (by kernel_rfl) (by kernel_rfl) (by kernel_rfl) (fun _ _ _ h => h) (Or.inl ⟨by rfl, by intro wx hx; go_simp⟩) (by assumption) ?_
            try simp only [List.getElem_toArray, List.getElem_cons_succ, List.getElem_cons_zero, Act.put, List.setIfInBounds_toArray, List.set_cons_zero, List.set_cons_succ]
            refine wpAnyH_take (i := 5) (v := .pointer (some ⟨bL, oL + t, none⟩)) rfl (by kernel_rfl) (by kernel_rfl) (by kernel_rfl) (fun _ _ _ h => h) (Or.inl ⟨by rfl, by intro wx hx; go_simp⟩) (by assumption) ?_
            try simp only [List.getElem_toArray, List.getElem_cons_succ, List.getElem_cons_zero, Act.put, List.setIfInBounds_toArray, List.set_cons_zero, List.set_cons_succ]
            refine wpAnyH_take (i := 6) (v := .slice dl E.length ml) rfl (by kernel_rfl) (by kernel_rfl) (by kernel_rfl) (fun _ _ _ h => h) (Or.inl ⟨by rfl, by intro wx hx; obtain ⟨_, _, _⟩ := hx; go_simp⟩) (by assumption) ?_
            try simp only [List.getElem_toArray, List.getElem_cons_succ, List.getElem_cons_zero, Act.put, List.setIfInBounds_toArray, List.set_cons_zero, List.set_cons_succ]
            refine wpAnyH_take (i := 7) (v := .slice dn NW.length mn) rfl (by kernel_rfl) (by kernel_rfl) (by kernel_rfl) (fun _ _ _ h => h) (Or.inl ⟨by rfl, by intro wx hx; go_simp⟩) (by assumption) ?_
            try simp only [List.getElem_toArray, List.getElem_cons_succ, List.getElem_cons_zero, Act.put, List.setIfInBounds_toArray, List.set_cons_zero, List.set_cons_succ]
            refine wpAnyH_take (i := 8) (v := .slice (some ⟨bX, oX, none⟩) X.length mX) rfl (by kernel_rfl) (by kernel_rfl) (by kernel_rfl) (fun _ _ _ h => h) (Or.inl ⟨by rfl, by intro wx hx; go_simp⟩) (by assumption) ?_
            try simp only [List.getElem_toArray, List.getElem_cons_succ, List.getElem_cons_zero, Act.put, List.setIfInBounds_toArray, List.set_cons_zero, List.set_cons_succ]
            refine wpAnyH_take (i := 9) (v := .int .i64 t) rfl (by kernel_rfl) (by kernel_rfl) (by kernel_rfl) (fun _ _ _ h => h) (Or.inl ⟨by rfl, by intro wx hx; go_simp⟩) (by assumption) ?_
            try simp only [List.getElem_toArray, List.getElem_cons_succ, List.getElem_cons_zero, Act.put, List.setIfInBounds_toArray, List.set_cons_zero, List.set_cons_succ]
            refine wpAnyH_take (i := 10) (v := .pointer (some ⟨bX, oX + t, none⟩)) rfl (by kernel_rfl) (by kernel_rfl) (by kernel_rfl) (fun _ _ _ h => h) (Or.inl ⟨by rfl, by intro wx hx; go_simp⟩) (by assumption) ?_
            try simp only [List.getElem_toArray, List.getElem_cons_succ, List.getElem_cons_zero, Act.put, List.setIfInBounds_toArray, List.set_cons_zero, List.set_cons_succ]
            refine wpAnyH_take (i := 11) (v := .int .i64 r5) rfl (by kernel_rfl) (by kernel_rfl) (by kernel_rfl) (fun _ _ _ h => h) (Or.inl ⟨by rfl, by intro wx hx; obtain ⟨_, _, _⟩ := hx; go_simp⟩) (by assumption) ?_
            try simp only [List.getElem_toArray, List.getElem_cons_succ, List.getElem_cons_zero, Act.put, List.setIfInBounds_toArray, List.set_cons_zero, List.set_cons_succ]
            refine wpAnyH_ready (rs := [12]) (by kernel_rfl) (by simp) ?_
            refine AllReadyH.cons rfl (fun K hK => ?_) AllReadyH.nil
            go_simp
            have hmz := hm5.ext (e := Ext.trans (Ext.trans g2225 hy9) ez)
            have hiz := hil.ext (e := Ext.trans hy9 ez)
            have hnz := hnow9.ext (w' := wy)
            go_at_call 48
            with_reducible refine (implWsv_any (w0 := wy) (w := wy) hmz hki hiz hnz hri).mono ?_
            rw [hws1.out, ← hK9.out, ← hW9.out]
            rintro e w10 ⟨ds, ms, rfl, own10, e10⟩
            have hstep : IsInts w10 (.slice ds A2.length ms) A2 := own10.reads (by unfold Short; have := hAi.out.1; omega) hAi.out.2
            have hX2 := hid (hSx.out w10 (Ext.trans ez e10))
            have hy10 : Ext w25 w10 := Ext.trans hy9 (Ext.trans ez e10)
            have hcT10 := (Ext.trans ez e10).cell hcT9
            clear hmz hiz hSx hHeld0 hnz hX1 own10 hcT9
            go_wp2_with fail
            refine hK.out _ _ hX2.out (fun _ => ?_)
            clear hK K
            try simp only [List.getElem_toArray, List.getElem_cons_succ, List.getElem_cons_zero, Act.put, List.setIfInBounds_toArray, List.set_cons_zero, List.set_cons_succ]
            refine wpAnyH_take (i := 13) (v := .tuple #[.slice ds A2.length ms, .int .i64 K9, .bool W9]) rfl (by kernel_rfl) (by kernel_rfl) (by kernel_rfl) (fun _ _ _ h => h) (Or.inl ⟨by rfl, by intro wx hx; go_simp⟩) (by assumption) ?_
            try simp only [List.getElem_toArray, List.getElem_cons_succ, List.getElem_cons_zero, Act.put, List.setIfInBounds_toArray, List.set_cons_zero, List.set_cons_succ]
            refine wpAnyH_take (i := 14) (v := .slice ds A2.length ms) rfl (by kernel_rfl) (by kernel_rfl) (by kernel_rfl) (fun _ _ _ h => h) (Or.inl ⟨by rfl, by intro wx hx; go_simp⟩) (by assumption) ?_
            try simp only [List.getElem_toArray, List.getElem_cons_succ, List.getElem_cons_zero, Act.put, List.setIfInBounds_toArray, List.set_cons_zero, List.set_cons_succ]
            refine wpAnyH_take (i := 15) (v := .int .i64 K9) rfl (by kernel_rfl) (by kernel_rfl) (by kernel_rfl) (fun _ _ _ h => h) (Or.inl ⟨by rfl, by intro wx hx; go_simp⟩) (by assumption) ?_
            try simp only [List.getElem_toArray, List.getElem_cons_succ, List.getElem_cons_zero, Act.put, List.setIfInBounds_toArray, List.set_cons_zero, List.set_cons_succ]
            refine wpAnyH_take (i := 16) (v := .bool W9) rfl (by kernel_rfl) (by kernel_rfl) (by kernel_rfl) (fun _ _ _ h => h) (Or.inl ⟨by rfl, by intro wx hx; go_simp⟩) (by assumption) ?_
            try simp only [List.getElem_toArray, List.getElem_cons_succ, List.getElem_cons_zero, Act.put, List.setIfInBounds_toArray, List.set_cons_zero, List.set_cons_succ]
            refine wpAnyH_take (i := 17) (v := .slice ds A2.length ms) rfl (by kernel_rfl) (by kernel_rfl) (by kernel_rfl) (fun _ _ _ h => h) (Or.inl ⟨by rfl, by intro wx hx; go_simp⟩) (by assumption) ?_
            try simp only [List.getElem_toArray, List.getElem_cons_succ, List.getElem_cons_zero, Act.put, List.setIfInBounds_toArray, List.set_cons_zero, List.set_cons_succ]
            refine wpAnyH_take (i := 18) (v := .int .i64 K9) rfl (by kernel_rfl) (by kernel_rfl) (by kernel_rfl) (fun _ _ _ h => h) (Or.inl ⟨by rfl, by intro wx hx; go_simp⟩) (by assumption) ?_
            try simp only [List.getElem_toArray, List.getElem_cons_succ, List.getElem_cons_zero, Act.put, List.setIfInBounds_toArray, List.set_cons_zero, List.set_cons_succ]
            refine wpAnyH_take (i := 19) (v := .bool W9) rfl (by kernel_rfl) (by kernel_rfl) (by kernel_rfl) (fun _ _ _ h => h) (Or.inl ⟨by rfl, by intro wx hx; go_simp⟩) (by assumption) ?_
            try simp only [List.getElem_toArray, List.getElem_cons_succ, List.getElem_cons_zero, Act.put, List.setIfInBounds_toArray, List.set_cons_zero, List.set_cons_succ]
            refine wpAnyH_done (by kernel_rfl) ?_ _
            have hiT10 := hiT.ext (e := hy10)
            clear ez hX2
            go_wp2_with fail
            with_reducible refine (vInts_same (w0 := w10) (w := w10) hstep hiT10).mono ?_
            rintro e w11 ⟨rfl, e11⟩
            have hstep11 := hstep.ext (w' := w11)
            have hy11 : Ext w25 w11 := Ext.trans hy10 e11
            clear hcT10
            go_wp2_with fail
            go_roundw
            case rel => exact ⟨t + 1, _, by omega, by go_num, by rw [← hg6.out], rfl, by rw [← hA2.out]; exact hstep11, hy11⟩
            case measure => simp [intOf]; omega
          · have hte : t = X.length := by omega
            subst hte
            have htL : X.length < L.length := by have := hLlid.out; omega
            obtain ⟨bL', oL', dl, ml, hdL', hcl, hil, hEl⟩ := hL.at (w' := wq) htL
            cases hdL'
            have hvb := wo_in2 (M := M5) (k := b.length) (ws := row L X.length) (c := A0 X.length)
            have hs2 := hsum2.out
            obtain ⟨v5, hv5⟩ : ∃ q, q = woR M5 b.length (row L X.length) (A0 X.length) := ⟨_, rfl⟩
            rw [← hv5] at hvb hs2
            obtain ⟨NW, hNW⟩ : ∃ q, q = A0 X.length := ⟨_, rfl⟩
            obtain ⟨E, hE⟩ : ∃ q, q = row L X.length := ⟨_, rfl⟩
            rw [← hNW] at hnow hv5
            obtain ⟨dn, mn, hnz, ln⟩ := hnow.form
            subst hnz
            rw [← hE] at hcl hil hEl hv5
            obtain ⟨W9, hW9⟩ : ∃ q, q = woB M5 b.length E NW := ⟨_, rfl⟩
            generalize gs X.length = g4 at *
            replace hNW := hid hNW
            replace hE := hid hE
            replace hv5 := hid hv5
            replace hW9 := hid hW9
            have hrb2 := hrb.out
            have hadd : IntKind.i64.wrap (S5 + v5) = S5 + v5 := IntWalk.i64_in _ (by omega)
            have hX0 := hid (show wq.cell? ⟨p5, 0, none⟩ = some (.slice f5 M5.length c5) ∧ wq.cell? ⟨bL, oL + X.length, none⟩ = some (.slice dl E.length ml) from ⟨hy.cell x5_25, hcl⟩)
            clear hcl
            go_upto_region 28 with fail
            have hSx := hid (show ∀ u, Ext wq u → u.cell? ⟨p5, 0, none⟩ = some (.slice f5 M5.length c5) ∧ u.cell? ⟨bL, oL + X.length, none⟩ = some (.slice dl E.length ml) from fun u e => ⟨e.cell hX0.out.1, e.cell hX0.out.2⟩)
            refine region_held_from (w0 := wq) (S := fun u => u.cell? ⟨p5, 0, none⟩ = some (.slice f5 M5.length c5) ∧ u.cell? ⟨bL, oL + X.length, none⟩ = some (.slice dl E.length ml)) (by kernel_rfl) hSx.out (fun wz ez hHeld0 => ?_)
            refine wpAnyH_take (i := 0) (v := .agg #[.slice f5 M5.length c5]) rfl (by kernel_rfl) (by kernel_rfl) (by kernel_rfl) (fun _ _ _ h => h) (Or.inl ⟨by rfl, by intro wx hx; obtain ⟨_, _⟩ := hx; go_simp⟩) (by assumption) ?_
            try simp only [List.getElem_toArray, List.getElem_cons_zero, Act.put, List.setIfInBounds_toArray, List.set_cons_zero, List.set_cons_succ]
            refine wpAnyH_take (i := 1) (v := .slice db b.length mb) rfl (by kernel_rfl) (by kernel_rfl) (by kernel_rfl) (fun _ _ _ h => h) (Or.inl ⟨by rfl, by intro wx hx; go_simp⟩) (by assumption) ?_
            try simp only [List.getElem_toArray, List.getElem_cons_succ, List.getElem_cons_zero, Act.put, List.setIfInBounds_toArray, List.set_cons_zero, List.set_cons_succ]
            refine wpAnyH_take (i := 2) (v := .int .i64 b.length) rfl (by kernel_rfl) (by kernel_rfl) (by kernel_rfl) (fun _ _ _ h => h) (Or.inl ⟨by rfl, by intro wx hx; go_simp⟩) (by assumption) ?_
            try simp only [List.getElem_toArray, List.getElem_cons_succ, List.getElem_cons_zero, Act.put, List.setIfInBounds_toArray, List.set_cons_zero, List.set_cons_succ]
            refine wpAnyH_take (i := 3) (v := .slice (some ⟨bL, oL, none⟩) L.length mL) rfl (by kernel_rfl) (by kernel_rfl) (by kernel_rfl) (fun _ _ _ h => h) (Or.inl ⟨by rfl, by intro wx hx; go_simp⟩) (by assumption) ?_
            try simp only [List.getElem_toArray, List.getElem_cons_succ, List.getElem_cons_zero, Act.put, List.setIfInBounds_toArray, List.set_cons_zero, List.set_cons_succ]
            refine wpAnyH_take (i := 4) (v := .slice dX X.length mX) rfl (by kernel_rfl) (by kernel_rfl) (by kernel_rfl) (fun _ _ _ h => h) (Or.inl ⟨by rfl, by intro wx hx; go_simp⟩) (by assumption) ?_
            try simp only [List.getElem_toArray, List.getElem_cons_succ, List.getElem_cons_zero, Act.put, List.setIfInBounds_toArray, List.set_cons_zero, List.set_cons_succ]
            refine wpAnyH_take (i := 5) (v := .int .i64 X.length) rfl (by kernel_rfl) (by kernel_rfl) (by kernel_rfl) (fun _ _ _ h => h) (Or.inl ⟨by rfl, by intro wx hx; go_simp⟩) (by assumption) ?_
            try simp only [List.getElem_toArray, List.getElem_cons_succ, List.getElem_cons_zero, Act.put, List.setIfInBounds_toArray, List.set_cons_zero, List.set_cons_succ]
            refine wpAnyH_take (i := 6) (v := .pointer (some ⟨bL, oL + X.length, none⟩)) rfl (by kernel_rfl) (by kernel_rfl) (by kernel_rfl) (fun _ _ _ h => h) (Or.inl ⟨by rfl, by intro wx hx; go_simp⟩) (by assumption) ?_
            try simp only [List.getElem_toArray, List.getElem_cons_succ, List.getElem_cons_zero, Act.put, List.setIfInBounds_toArray, List.set_cons_zero, List.set_cons_succ]
            refine wpAnyH_take (i := 7) (v := .slice dl E.length ml) rfl (by kernel_rfl) (by kernel_rfl) (by kernel_rfl) (fun _ _ _ h => h) (Or.inl ⟨by rfl, by intro wx hx; obtain ⟨_, _⟩ := hx; go_simp⟩) (by assumption) ?_
            try simp only [List.getElem_toArray, List.getElem_cons_succ, List.getElem_cons_zero, Act.put, List.setIfInBounds_toArray, List.set_cons_zero, List.set_cons_succ]
            refine wpAnyH_take (i := 8) (v := .slice dn NW.length mn) rfl (by kernel_rfl) (by kernel_rfl) (by kernel_rfl) (fun _ _ _ h => h) (Or.inl ⟨by rfl, by intro wx hx; go_simp⟩) (by assumption) ?_
            try simp only [List.getElem_toArray, List.getElem_cons_succ, List.getElem_cons_zero, Act.put, List.setIfInBounds_toArray, List.set_cons_zero, List.set_cons_succ]
            refine wpAnyH_ready (rs := [9]) (by kernel_rfl) (by simp) ?_
            refine AllReadyH.cons rfl (fun K hK => ?_) AllReadyH.nil
            go_simp
            have hmz := hm5.ext (e := Ext.trans (Ext.trans g2225 hy) ez)
            have hiz := hil.ext (e := Ext.trans hy ez)
            have hnz := hnow.ext (w' := wz)
            go_at_call 19
            with_reducible refine (implWorkOf_any (w0 := wz) (w := wz) hmz hiz hnz).mono ?_
            rw [← hv5.out, ← hW9.out]
            rintro e w9 ⟨rfl, e9⟩
            have hX1 := hid (hSx.out w9 (Ext.trans ez e9))
            have hy9 : Ext w25 w9 := Ext.trans hy (Ext.trans ez e9)
            have hm9 := hm5.ext (e := Ext.trans g2225 hy9)
            have hb9 := hb5.ext (e := Ext.trans g2225 hy9)
            have hX9 := hX5.ext (e := Ext.trans g2225 hy9)
            clear hmz hiz hSx hHeld0 hnz
            go_wp2_with fail
            refine hK.out _ _ hX1.out (fun _ => ?_)
            clear hK K
            try simp only [List.getElem_toArray, List.getElem_cons_succ, List.getElem_cons_zero, Act.put, List.setIfInBounds_toArray, List.set_cons_zero, List.set_cons_succ]
            refine wpAnyH_take (i := 10) (v := .tuple #[.int .i64 v5, .bool W9]) rfl (by kernel_rfl) (by kernel_rfl) (by kernel_rfl) (fun _ _ _ h => h) (Or.inl ⟨by rfl, by intro wx hx; go_simp⟩) (by assumption) ?_
            try simp only [List.getElem_toArray, List.getElem_cons_succ, List.getElem_cons_zero, Act.put, List.setIfInBounds_toArray, List.set_cons_zero, List.set_cons_succ]
            refine wpAnyH_take (i := 11) (v := .int .i64 v5) rfl (by kernel_rfl) (by kernel_rfl) (by kernel_rfl) (fun _ _ _ h => h) (Or.inl ⟨by rfl, by intro wx hx; go_simp⟩) (by assumption) ?_
            try simp only [List.getElem_toArray, List.getElem_cons_succ, List.getElem_cons_zero, Act.put, List.setIfInBounds_toArray, List.set_cons_zero, List.set_cons_succ]
            refine wpAnyH_take (i := 12) (v := .bool W9) rfl (by kernel_rfl) (by kernel_rfl) (by kernel_rfl) (fun _ _ _ h => h) (Or.inl ⟨by rfl, by intro wx hx; go_simp⟩) (by assumption) ?_
            try simp only [List.getElem_toArray, List.getElem_cons_succ, List.getElem_cons_zero, Act.put, List.setIfInBounds_toArray, List.set_cons_zero, List.set_cons_succ]
            refine wpAnyH_take (i := 13) (v := .int .i64 v5) rfl (by kernel_rfl) (by kernel_rfl) (by kernel_rfl) (fun _ _ _ h => h) (Or.inl ⟨by rfl, by intro wx hx; go_simp⟩) (by assumption) ?_
            try simp only [List.getElem_toArray, List.getElem_cons_succ, List.getElem_cons_zero, Act.put, List.setIfInBounds_toArray, List.set_cons_zero, List.set_cons_succ]
            refine wpAnyH_take (i := 14) (v := .bool W9) rfl (by kernel_rfl) (by kernel_rfl) (by kernel_rfl) (fun _ _ _ h => h) (Or.inl ⟨by rfl, by intro wx hx; go_simp⟩) (by assumption) ?_
            try simp only [List.getElem_toArray, List.getElem_cons_succ, List.getElem_cons_zero, Act.put, List.setIfInBounds_toArray, List.set_cons_zero, List.set_cons_succ]
            refine wpAnyH_done (by kernel_rfl) ?_ _
            have x5_9 := hX1.out.1
            clear ez hX1 hX0
            go_wp2_with fail
            with_reducible refine (implLeast_any (w0 := w9) (w := w9) hm9 hb9 hX9).mono ?_
            rw [← hK5.out, hQ5.out]
            rintro e w10 ⟨rfl, e10⟩
            have hSS : (S5 == S5) = true := by simp
            have hle1 : decide (S5 + v5 ≤ g4) = true := decide_eq_true hs2
            have hle2 : decide (K5 ≤ S5) = true := decide_eq_true hls.out
            have gend : Ext w w10 := Ext.trans e1 (Ext.trans g25 (Ext.trans hy9 e10))
            clear x5_9
            by_cases hb1 : 1 < b.length
            · have hb1' : (1 : Int) < (b.length : Int) := by omega
              have hb2 : decide ((1 : Int) < (b.length : Int)) = true := decide_eq_true hb1'
              go_wp2_with fail
              go_ret
              exact ⟨rfl, gend⟩
            · have hb1' : ¬ (1 : Int) < (b.length : Int) := by omega
              have hb2 : decide ((1 : Int) < (b.length : Int)) = false := decide_eq_false hb1'
              have hSK := hone.out (by have := hbl1.out hQ5.out; omega)
              subst hSK
              go_wp2_with fail
              go_ret
              exact ⟨rfl, gend⟩
    | true =>
      have hh := hid (hhas.out rfl)
      go_wp2_with fail
      with_reducible refine (vHas_any (w0 := w27) (w := w27) hc1i).mono ?_
      rw [hh.out]
      rintro e w28 ⟨rfl, rfl⟩
      clear hc1i hhas hh
      cases hQ5 : srvB M5 b X with
      | false =>
        replace hQ5 := hid hQ5
        go_wp2_with fail
        go_ret
        exact ⟨rfl, Ext.trans e1 g27⟩
      | true =>
        obtain ⟨hTl, hsm, hsr, hls, hone, hsum, hwsv⟩ := wa_law hQ5
        have hLl := hid (wl_all hQ5).1
        have hrb := rr_in hQ5
        have hlb := least_in hQ5
        obtain ⟨A0, hA0⟩ : ∃ f : Nat → List Int, f = fun i => rnA M5 (confs M5.length b.length 0) b X i := ⟨_, rfl⟩
        have hA0z := hid (show A0 0 = b by rw [hA0]; rfl)
        have hwsv' := hid (show ∀ i, i < X.length → wsvC M5 b.length (row (wlR M5 b X) i) (A0 i) (nth X i) = A0 (i + 1) ∧ row (rrT M5 b X) i = A0 (i + 1) from fun i hi => by rw [hA0]; exact hwsv i hi)
        have hsum' : rrS M5 b X + woR M5 b.length (row (wlR M5 b X) X.length) (A0 X.length) ≤ gsTo M5 b X X.length := by rw [hA0]; exact hsum
        clear hwsv hsum hA0
        obtain ⟨S5, hS5⟩ : ∃ z, z = rrS M5 b X := ⟨_, rfl⟩
        obtain ⟨K5, hK5⟩ : ∃ z, z = lwR M5 b X := ⟨_, rfl⟩
        have hgsn := hid (fun (i : Nat) => show gsTo M5 b X (i + 1) = gsTo M5 b X i + gwR M5 b.length (row (wlR M5 b X) i) (nth X i) from rfl)
        rw [← hS5] at hsr hls hone hrb hsum' ⊢
        rw [← hK5] at hls hone hlb
        obtain ⟨T5, hT5⟩ : ∃ z, z = rrT M5 b X := ⟨_, rfl⟩
        rw [← hT5] at hTl hsm hsr hwsv' hTi ⊢
        replace hS5 := hid hS5
        replace hK5 := hid hK5
        replace hT5 := hid hT5
        replace hQ5 := hid hQ5
        replace hsm := hid hsm
        replace hsr := hid hsr
        replace hls := hid hls
        replace hone := hid hone
        replace hsum' := hid hsum'
        replace hTl := hid hTl
        replace hrb := hid hrb
        replace hlb := hid hlb
        go_wp2_with fail
        with_reducible refine (implLists_any (w0 := w22) (w := w27) hm5 hb5 hX5).mono ?_
        rw [hQ5.out]
        rintro e w24 ⟨uL, rfl, hL, e24⟩
        obtain ⟨dL, mL, rfl, lL⟩ := hL.form
        have x5_24 := e24.cell xb27
        have g2224 : Ext w22 w24 := Ext.trans g2227 e24
        have hTi24 := hTi.ext (w' := w24)
        have hm24 := hm5.ext (e := g2224)
        have hb24 := hb5.ext (e := g2224)
        have hX24 := hX5.ext (e := g2224)
        go_wp2_with fail
        with_reducible refine (implSM_any (w0 := w24) (w := w24) hm24 hb24 hX24 hTi24).mono ?_
        rw [hsm.out, hsr.out]
        rintro e w25 ⟨rfl, e25⟩
        have x5_25 := e25.cell x5_24
        have g2225 : Ext w22 w25 := Ext.trans g2224 e25
        have g25 : Ext w1 w25 := Ext.trans g27 (Ext.trans e24 e25)
        have hL := hL.ext (w' := w25)
        have hT25 := hTi24.ext (w' := w25)
        have hb25 := hb24.ext (w' := w25)
        clear x5_24 hTi24 hTi hm24 hb24 hX24
        obtain ⟨gs, hgs⟩ : ∃ f : Nat → Int, f = fun i => gsTo M5 b X i := ⟨_, rfl⟩
        have hgb := hid (fun (i : Nat) => gs_in (M := M5) (a := b) (X := X) i)
        have hgs0 := hid (show gs 0 = 0 by rw [hgs]; rfl)
        have hgsn' := hid (show ∀ i, gs (i + 1) = gs i + gwR M5 b.length (row (wlR M5 b X) i) (nth X i) from fun i => by rw [hgs]; rfl)
        have hgb' := hid (show ∀ i, 0 ≤ gs i ∧ gs i ≤ 99999 * i from fun i => by rw [hgs]; exact hgb.out i)
        have hsum2 := hid (show S5 + woR M5 b.length (row (wlR M5 b X) X.length) (A0 X.length) ≤ gs X.length by rw [hgs]; exact hsum'.out)
        clear hgs hgb hgsn hsum'
        generalize wlR M5 b X = L at *
        obtain ⟨bL, oL, dl0, ml0, hdL, _, _, _⟩ := hL.at (w' := w25) (k := 0) (by have := hLl.out; omega)
        subst hdL
        have hLlid := hLl
        clear hLl
        go_wp2_with fail
        go_loopw [27, 28, 29, 30, 31, 32, 33, 34] (fun gv nv tv _ _ _ _ _ wr => ∃ (t : Nat) (nz : Value), t ≤ X.length ∧ tv = .int .i64 t ∧ gv = .int .i64 (gs t) ∧ nz = nv ∧ IsInts wr nz (A0 t) ∧ Ext w25 wr) (fun _ _ tv _ _ _ _ _ _ => X.length - (intOf tv).toNat)
        case atStart => exact ⟨0, _, by omega, rfl, by rw [hgs0.out], rfl, by rw [hA0z.out]; exact hb25, Ext.refl _⟩
        case round =>
          obtain ⟨t, nz, ht, rfl, rfl, rfl, hnow, hy⟩ := hrel
          obtain ⟨wq, rfl⟩ : ∃ y : World, y = wr := ⟨_, rfl⟩
          have hgt := hgb'.out t
          by_cases hlt : t < X.length
          · have htL : t < L.length := by have := hLlid.out; omega
            have htT : t < T5.length := by rw [hTl.out]; exact hlt
            obtain ⟨bL', oL', dl, ml, hdL', hcl, hil, hEl⟩ := hL.at (w' := wq) htL
            cases hdL'
            obtain ⟨bX, oX, hdX, hcX⟩ := hX5.at (e := Ext.trans g2225 hy) (w' := wq) hlt
            subst hdX
            obtain ⟨bT, oT, dt, mt, hdT, hcT, hiT, hET⟩ := hT25.at (w' := wq) htT
            subst hdT
            obtain ⟨hws1, hws2⟩ := hwsv'.out t hlt
            have hgn := hgsn'.out t
            have hgt2 := hgb'.out (t + 1)
            obtain ⟨NW, hNW⟩ : ∃ q, q = A0 t := ⟨_, rfl⟩
            rw [← hNW] at hnow hws1
            obtain ⟨dn, mn, hnz, ln⟩ := hnow.form
            subst hnz
            obtain ⟨A2, hA2⟩ : ∃ q, q = A0 (t + 1) := ⟨_, rfl⟩
            rw [← hA2] at hws1 hws2
            rw [hws2] at hcT hiT hET
            obtain ⟨E, hE⟩ : ∃ q, q = row L t := ⟨_, rfl⟩
            rw [← hE] at hcl hil hEl hws1 hgn
            obtain ⟨r5, hr5⟩ : ∃ q, q = nth X t := ⟨_, rfl⟩
            rw [← hr5] at hcX hws1 hgn
            have hri : I64 r5 := by rw [hr5]; exact hX5.i64 hlt
            have hki : I64 (b.length : Int) := by unfold I64; omega
            obtain ⟨g5, hg5⟩ : ∃ q, q = gwR M5 b.length E r5 := ⟨_, rfl⟩
            rw [← hg5] at hgn
            obtain ⟨g6, hg6⟩ : ∃ q, q = gs (t + 1) := ⟨_, rfl⟩
            rw [← hg6] at hgn hgt2
            obtain ⟨P5, hP5⟩ : ∃ q, q = stB M5 b.length E r5 := ⟨_, rfl⟩
            obtain ⟨K9, hK9⟩ : ∃ q, q = wsvK M5 b.length E NW r5 := ⟨_, rfl⟩
            obtain ⟨W9, hW9⟩ : ∃ q, q = wsvB M5 b.length E NW r5 := ⟨_, rfl⟩
            have hAi := hid (show A2.length ≤ 3 ∧ ∀ x ∈ A2, I64 x by rw [← hws1]; exact wsvC_i64)
            generalize gs t = g4 at *
            have hadd : IntKind.i64.wrap (g4 + g5) = g6 := by rw [hgn]; exact IntWalk.i64_in _ (by omega)
            replace hE := hid hE
            replace hr5 := hid hr5
            replace hg5 := hid hg5
            replace hg6 := hid hg6
            replace hP5 := hid hP5
            replace hK9 := hid hK9
            replace hW9 := hid hW9
            replace hws1 := hid hws1
            replace hws2 := hid hws2
            replace hgn := hid hgn
            replace hNW := hid hNW
            replace hA2 := hid hA2
            have hX0 := hid (show wq.cell? ⟨p5, 0, none⟩ = some (.slice f5 M5.length c5) ∧ wq.cell? ⟨bL, oL + t, none⟩ = some (.slice dl E.length ml) ∧ wq.cell? ⟨bX, oX + t, none⟩ = some (.int .i64 r5) from ⟨hy.cell x5_25, hcl, hcX⟩)
            clear hcl hcX
            go_upto_region 22 with fail
            have hSx := hid (show ∀ u, Ext wq u → u.cell? ⟨p5, 0, none⟩ = some (.slice f5 M5.length c5) ∧ u.cell? ⟨bL, oL + t, none⟩ = some (.slice dl E.length ml) ∧ u.cell? ⟨bX, oX + t, none⟩ = some (.int .i64 r5) from fun u e => ⟨e.cell hX0.out.1, e.cell hX0.out.2.1, e.cell hX0.out.2.2⟩)
            refine region_held_from (w0 := wq) (S := fun u => u.cell? ⟨p5, 0, none⟩ = some (.slice f5 M5.length c5) ∧ u.cell? ⟨bL, oL + t, none⟩ = some (.slice dl E.length ml) ∧ u.cell? ⟨bX, oX + t, none⟩ = some (.int .i64 r5)) (by kernel_rfl) hSx.out (fun wz ez hHeld0 => ?_)
            refine wpAnyH_take (i := 0) (v := .agg #[.slice f5 M5.length c5]) rfl (by kernel_rfl) (by kernel_rfl) (by kernel_rfl) (fun _ _ _ h => h) (Or.inl ⟨by rfl, by intro wx hx; obtain ⟨_, _, _⟩ := hx; go_simp⟩) (by assumption) ?_
            try simp only [List.getElem_toArray, List.getElem_cons_zero, Act.put, List.setIfInBounds_toArray, List.set_cons_zero, List.set_cons_succ]
            refine wpAnyH_take (i := 1) (v := .slice db b.length mb) rfl (by kernel_rfl) (by kernel_rfl) (by kernel_rfl) (fun _ _ _ h => h) (Or.inl ⟨by rfl, by intro wx hx; go_simp⟩) (by assumption) ?_
            try simp only [List.getElem_toArray, List.getElem_cons_succ, List.getElem_cons_zero, Act.put, List.setIfInBounds_toArray, List.set_cons_zero, List.set_cons_succ]
            refine wpAnyH_take (i := 2) (v := .int .i64 b.length) rfl (by kernel_rfl) (by kernel_rfl) (by kernel_rfl) (fun _ _ _ h => h) (Or.inl ⟨by rfl, by intro wx hx; go_simp⟩) (by assumption) ?_
            try simp only [List.getElem_toArray, List.getElem_cons_succ, List.getElem_cons_zero, Act.put, List.setIfInBounds_toArray, List.set_cons_zero, List.set_cons_succ]
            refine wpAnyH_take (i := 3) (v := .slice (some ⟨bL, oL, none⟩) L.length mL) rfl (by kernel_rfl) (by kernel_rfl) (by kernel_rfl) (fun _ _ _ h => h) (Or.inl ⟨by rfl, by intro wx hx; go_simp⟩) (by assumption) ?_
            try simp only [List.getElem_toArray, List.getElem_cons_succ, List.getElem_cons_zero, Act.put, List.setIfInBounds_toArray, List.set_cons_zero, List.set_cons_succ]
            refine wpAnyH_take (i := 4) (v := .int .i64 t) rfl (by kernel_rfl) (by kernel_rfl) (by kernel_rfl) (fun _ _ _ h => h) (Or.inl ⟨by rfl, by intro wx hx; go_simp⟩) (by assumption) ?_
            try simp only [List.getElem_toArray, List.getElem_cons_succ, List.getElem_cons_zero, Act.put, List.setIfInBounds_toArray, List.set_cons_zero, List.set_cons_succ]
            refine wpAnyH_take (i := 5) (v := .pointer (some ⟨bL, oL + t, none⟩)) rfl (by kernel_rfl) (by kernel_rfl) (by kernel_rfl) (fun _ _ _ h => h) (Or.inl ⟨by rfl, by intro wx hx; go_simp⟩) (by assumption) ?_
            try simp only [List.getElem_toArray, List.getElem_cons_succ, List.getElem_cons_zero, Act.put, List.setIfInBounds_toArray, List.set_cons_zero, List.set_cons_succ]
            refine wpAnyH_take (i := 6) (v := .slice dl E.length ml) rfl (by kernel_rfl) (by kernel_rfl) (by kernel_rfl) (fun _ _ _ h => h) (Or.inl ⟨by rfl, by intro wx hx; obtain ⟨_, _, _⟩ := hx; go_simp⟩) (by assumption) ?_
            try simp only [List.getElem_toArray, List.getElem_cons_succ, List.getElem_cons_zero, Act.put, List.setIfInBounds_toArray, List.set_cons_zero, List.set_cons_succ]
            refine wpAnyH_take (i := 7) (v := .slice (some ⟨bX, oX, none⟩) X.length mX) rfl (by kernel_rfl) (by kernel_rfl) (by kernel_rfl) (fun _ _ _ h => h) (Or.inl ⟨by rfl, by intro wx hx; go_simp⟩) (by assumption) ?_
            try simp only [List.getElem_toArray, List.getElem_cons_succ, List.getElem_cons_zero, Act.put, List.setIfInBounds_toArray, List.set_cons_zero, List.set_cons_succ]
            refine wpAnyH_take (i := 8) (v := .int .i64 t) rfl (by kernel_rfl) (by kernel_rfl) (by kernel_rfl) (fun _ _ _ h => h) (Or.inl ⟨by rfl, by intro wx hx; go_simp⟩) (by assumption) ?_
            try simp only [List.getElem_toArray, List.getElem_cons_succ, List.getElem_cons_zero, Act.put, List.setIfInBounds_toArray, List.set_cons_zero, List.set_cons_succ]
            refine wpAnyH_take (i := 9) (v := .pointer (some ⟨bX, oX + t, none⟩)) rfl (by kernel_rfl) (by kernel_rfl) (by kernel_rfl) (fun _ _ _ h => h) (Or.inl ⟨by rfl, by intro wx hx; go_simp⟩) (by assumption) ?_
            try simp only [List.getElem_toArray, List.getElem_cons_succ, List.getElem_cons_zero, Act.put, List.setIfInBounds_toArray, List.set_cons_zero, List.set_cons_succ]
            refine wpAnyH_take (i := 10) (v := .int .i64 r5) rfl (by kernel_rfl) (by kernel_rfl) (by kernel_rfl) (fun _ _ _ h => h) (Or.inl ⟨by rfl, by intro wx hx; obtain ⟨_, _, _⟩ := hx; go_simp⟩) (by assumption) ?_
            try simp only [List.getElem_toArray, List.getElem_cons_succ, List.getElem_cons_zero, Act.put, List.setIfInBounds_toArray, List.set_cons_zero, List.set_cons_succ]
            refine wpAnyH_ready (rs := [11]) (by kernel_rfl) (by simp) ?_
            refine AllReadyH.cons rfl (fun K hK => ?_) AllReadyH.nil
            go_simp
            have hmz := hm5.ext (e := Ext.trans (Ext.trans g2225 hy) ez)
            have hiz := hil.ext (e := Ext.trans hy ez)
            go_at_call 52
            with_reducible refine (implGrowth_any (w0 := wz) (w := wz) hmz hiz).mono ?_
            rw [← hg5.out, ← hP5.out]
            rintro e w9 ⟨rfl, e9⟩
            have hX1 := hid (hSx.out w9 (Ext.trans ez e9))
            have hy9 : Ext w25 w9 := Ext.trans hy (Ext.trans ez e9)
            have hnow9 := hnow.ext (e := Ext.trans ez e9)
            have hcT9 := (Ext.trans ez e9).cell hcT
            clear hmz hiz hSx hHeld0 hcT
            go_wp2_with fail
            refine hK.out _ _ hX1.out (fun _ => ?_)
            clear hK K
            try simp only [List.getElem_toArray, List.getElem_cons_succ, List.getElem_cons_zero, Act.put, List.setIfInBounds_toArray, List.set_cons_zero, List.set_cons_succ]
            refine wpAnyH_take (i := 12) (v := .tuple #[.int .i64 g5, .bool P5]) rfl (by kernel_rfl) (by kernel_rfl) (by kernel_rfl) (fun _ _ _ h => h) (Or.inl ⟨by rfl, by intro wx hx; go_simp⟩) (by assumption) ?_
            try simp only [List.getElem_toArray, List.getElem_cons_succ, List.getElem_cons_zero, Act.put, List.setIfInBounds_toArray, List.set_cons_zero, List.set_cons_succ]
            refine wpAnyH_take (i := 13) (v := .int .i64 g5) rfl (by kernel_rfl) (by kernel_rfl) (by kernel_rfl) (fun _ _ _ h => h) (Or.inl ⟨by rfl, by intro wx hx; go_simp⟩) (by assumption) ?_
            try simp only [List.getElem_toArray, List.getElem_cons_succ, List.getElem_cons_zero, Act.put, List.setIfInBounds_toArray, List.set_cons_zero, List.set_cons_succ]
            refine wpAnyH_take (i := 14) (v := .bool P5) rfl (by kernel_rfl) (by kernel_rfl) (by kernel_rfl) (fun _ _ _ h => h) (Or.inl ⟨by rfl, by intro wx hx; go_simp⟩) (by assumption) ?_
            try simp only [List.getElem_toArray, List.getElem_cons_succ, List.getElem_cons_zero, Act.put, List.setIfInBounds_toArray, List.set_cons_zero, List.set_cons_succ]
            refine wpAnyH_take (i := 15) (v := .int .i64 g5) rfl (by kernel_rfl) (by kernel_rfl) (by kernel_rfl) (fun _ _ _ h => h) (Or.inl ⟨by rfl, by intro wx hx; go_simp⟩) (by assumption) ?_
            try simp only [List.getElem_toArray, List.getElem_cons_succ, List.getElem_cons_zero, Act.put, List.setIfInBounds_toArray, List.set_cons_zero, List.set_cons_succ]
            refine wpAnyH_take (i := 16) (v := .bool P5) rfl (by kernel_rfl) (by kernel_rfl) (by kernel_rfl) (fun _ _ _ h => h) (Or.inl ⟨by rfl, by intro wx hx; go_simp⟩) (by assumption) ?_
            try simp only [List.getElem_toArray, List.getElem_cons_succ, List.getElem_cons_zero, Act.put, List.setIfInBounds_toArray, List.set_cons_zero, List.set_cons_succ]
            refine wpAnyH_done (by kernel_rfl) ?_ _
            clear ez hnow
            go_upto_region 24 with fail
            have hSx := hid (show ∀ u, Ext w9 u → u.cell? ⟨p5, 0, none⟩ = some (.slice f5 M5.length c5) ∧ u.cell? ⟨bL, oL + t, none⟩ = some (.slice dl E.length ml) ∧ u.cell? ⟨bX, oX + t, none⟩ = some (.int .i64 r5) from fun u e => ⟨e.cell hX1.out.1, e.cell hX1.out.2.1, e.cell hX1.out.2.2⟩)
            refine region_held_from (w0 := w9) (S := fun u => u.cell? ⟨p5, 0, none⟩ = some (.slice f5 M5.length c5) ∧ u.cell? ⟨bL, oL + t, none⟩ = some (.slice dl E.length ml) ∧ u.cell? ⟨bX, oX + t, none⟩ = some (.int .i64 r5)) (by kernel_rfl) hSx.out (fun wy ez hHeld0 => ?_)
            refine wpAnyH_take (i := 0) (v := .agg #[.slice f5 M5.length c5]) rfl (by kernel_rfl) (by kernel_rfl) (by kernel_rfl) (fun _ _ _ h => h) (Or.inl ⟨by rfl, by intro wx hx; obtain ⟨_, _, _⟩ := hx; go_simp⟩) (by assumption) ?_
            try simp only [List.getElem_toArray, List.getElem_cons_zero, Act.put, List.setIfInBounds_toArray, List.set_cons_zero, List.set_cons_succ]
            refine wpAnyH_take (i := 1) (v := .slice db b.length mb) rfl (by kernel_rfl) (by kernel_rfl) (by kernel_rfl) (fun _ _ _ h => h) (Or.inl ⟨by rfl, by intro wx hx; go_simp⟩) (by assumption) ?_
            try simp only [List.getElem_toArray, List.getElem_cons_succ, List.getElem_cons_zero, Act.put, List.setIfInBounds_toArray, List.set_cons_zero, List.set_cons_succ]
            refine wpAnyH_take (i := 2) (v := .int .i64 b.length) rfl (by kernel_rfl) (by kernel_rfl) (by kernel_rfl) (fun _ _ _ h => h) (Or.inl ⟨by rfl, by intro wx hx; go_simp⟩) (by assumption) ?_
            try simp only [List.getElem_toArray, List.getElem_cons_succ, List.getElem_cons_zero, Act.put, List.setIfInBounds_toArray, List.set_cons_zero, List.set_cons_succ]
            refine wpAnyH_take (i := 3) (v := .slice (some ⟨bL, oL, none⟩) L.length mL) rfl (by kernel_rfl) (by kernel_rfl) (by kernel_rfl) (fun _ _ _ h => h) (Or.inl ⟨by rfl, by intro wx hx; go_simp⟩) (by assumption) ?_
            try simp only [List.getElem_toArray, List.getElem_cons_succ, List.getElem_cons_zero, Act.put, List.setIfInBounds_toArray, List.set_cons_zero, List.set_cons_succ]
            refine wpAnyH_take (i := 4) (v := .int .i64 t) rfl (by kernel_rfl) (by kernel_rfl) (by kernel_rfl) (fun _ _ _ h => h) (Or.inl ⟨by rfl, by intro wx hx; go_simp⟩) (by assumption) ?_
            try simp only [List.getElem_toArray, List.getElem_cons_succ, List.getElem_cons_zero, Act.put, List.setIfInBounds_toArray, List.set_cons_zero, List.set_cons_succ]
            refine wpAnyH_take (i := 5) (v := .pointer (some ⟨bL, oL + t, none⟩)) rfl (by kernel_rfl) (by kernel_rfl) (by kernel_rfl) (fun _ _ _ h => h) (Or.inl ⟨by rfl, by intro wx hx; go_simp⟩) (by assumption) ?_
            try simp only [List.getElem_toArray, List.getElem_cons_succ, List.getElem_cons_zero, Act.put, List.setIfInBounds_toArray, List.set_cons_zero, List.set_cons_succ]
            refine wpAnyH_take (i := 6) (v := .slice dl E.length ml) rfl (by kernel_rfl) (by kernel_rfl) (by kernel_rfl) (fun _ _ _ h => h) (Or.inl ⟨by rfl, by intro wx hx; obtain ⟨_, _, _⟩ := hx; go_simp⟩) (by assumption) ?_
            try simp only [List.getElem_toArray, List.getElem_cons_succ, List.getElem_cons_zero, Act.put, List.setIfInBounds_toArray, List.set_cons_zero, List.set_cons_succ]
            refine wpAnyH_take (i := 7) (v := .slice dn NW.length mn) rfl (by kernel_rfl) (by kernel_rfl) (by kernel_rfl) (fun _ _ _ h => h) (Or.inl ⟨by rfl, by intro wx hx; go_simp⟩) (by assumption) ?_
            try simp only [List.getElem_toArray, List.getElem_cons_succ, List.getElem_cons_zero, Act.put, List.setIfInBounds_toArray, List.set_cons_zero, List.set_cons_succ]
            refine wpAnyH_take (i := 8) (v := .slice (some ⟨bX, oX, none⟩) X.length mX) rfl (by kernel_rfl) (by kernel_rfl) (by kernel_rfl) (fun _ _ _ h => h) (Or.inl ⟨by rfl, by intro wx hx; go_simp⟩) (by assumption) ?_
            try simp only [List.getElem_toArray, List.getElem_cons_succ, List.getElem_cons_zero, Act.put, List.setIfInBounds_toArray, List.set_cons_zero, List.set_cons_succ]
            refine wpAnyH_take (i := 9) (v := .int .i64 t) rfl (by kernel_rfl) (by kernel_rfl) (by kernel_rfl) (fun _ _ _ h => h) (Or.inl ⟨by rfl, by intro wx hx; go_simp⟩) (by assumption) ?_
            try simp only [List.getElem_toArray, List.getElem_cons_succ, List.getElem_cons_zero, Act.put, List.setIfInBounds_toArray, List.set_cons_zero, List.set_cons_succ]
            refine wpAnyH_take (i := 10) (v := .pointer (some ⟨bX, oX + t, none⟩)) rfl (by kernel_rfl) (by kernel_rfl) (by kernel_rfl) (fun _ _ _ h => h) (Or.inl ⟨by rfl, by intro wx hx; go_simp⟩) (by assumption) ?_
            try simp only [List.getElem_toArray, List.getElem_cons_succ, List.getElem_cons_zero, Act.put, List.setIfInBounds_toArray, List.set_cons_zero, List.set_cons_succ]
            refine wpAnyH_take (i := 11) (v := .int .i64 r5) rfl (by kernel_rfl) (by kernel_rfl) (by kernel_rfl) (fun _ _ _ h => h) (Or.inl ⟨by rfl, by intro wx hx; obtain ⟨_, _, _⟩ := hx; go_simp⟩) (by assumption) ?_
            try simp only [List.getElem_toArray, List.getElem_cons_succ, List.getElem_cons_zero, Act.put, List.setIfInBounds_toArray, List.set_cons_zero, List.set_cons_succ]
            refine wpAnyH_ready (rs := [12]) (by kernel_rfl) (by simp) ?_
            refine AllReadyH.cons rfl (fun K hK => ?_) AllReadyH.nil
            go_simp
            have hmz := hm5.ext (e := Ext.trans (Ext.trans g2225 hy9) ez)
            have hiz := hil.ext (e := Ext.trans hy9 ez)
            have hnz := hnow9.ext (w' := wy)
            go_at_call 48
            with_reducible refine (implWsv_any (w0 := wy) (w := wy) hmz hki hiz hnz hri).mono ?_
            rw [hws1.out, ← hK9.out, ← hW9.out]
            rintro e w10 ⟨ds, ms, rfl, own10, e10⟩
            have hstep : IsInts w10 (.slice ds A2.length ms) A2 := own10.reads (by unfold Short; have := hAi.out.1; omega) hAi.out.2
            have hX2 := hid (hSx.out w10 (Ext.trans ez e10))
            have hy10 : Ext w25 w10 := Ext.trans hy9 (Ext.trans ez e10)
            have hcT10 := (Ext.trans ez e10).cell hcT9
            clear hmz hiz hSx hHeld0 hnz hX1 own10 hcT9
            go_wp2_with fail
            refine hK.out _ _ hX2.out (fun _ => ?_)
            clear hK K
            try simp only [List.getElem_toArray, List.getElem_cons_succ, List.getElem_cons_zero, Act.put, List.setIfInBounds_toArray, List.set_cons_zero, List.set_cons_succ]
            refine wpAnyH_take (i := 13) (v := .tuple #[.slice ds A2.length ms, .int .i64 K9, .bool W9]) rfl (by kernel_rfl) (by kernel_rfl) (by kernel_rfl) (fun _ _ _ h => h) (Or.inl ⟨by rfl, by intro wx hx; go_simp⟩) (by assumption) ?_
            try simp only [List.getElem_toArray, List.getElem_cons_succ, List.getElem_cons_zero, Act.put, List.setIfInBounds_toArray, List.set_cons_zero, List.set_cons_succ]
            refine wpAnyH_take (i := 14) (v := .slice ds A2.length ms) rfl (by kernel_rfl) (by kernel_rfl) (by kernel_rfl) (fun _ _ _ h => h) (Or.inl ⟨by rfl, by intro wx hx; go_simp⟩) (by assumption) ?_
            try simp only [List.getElem_toArray, List.getElem_cons_succ, List.getElem_cons_zero, Act.put, List.setIfInBounds_toArray, List.set_cons_zero, List.set_cons_succ]
            refine wpAnyH_take (i := 15) (v := .int .i64 K9) rfl (by kernel_rfl) (by kernel_rfl) (by kernel_rfl) (fun _ _ _ h => h) (Or.inl ⟨by rfl, by intro wx hx; go_simp⟩) (by assumption) ?_
            try simp only [List.getElem_toArray, List.getElem_cons_succ, List.getElem_cons_zero, Act.put, List.setIfInBounds_toArray, List.set_cons_zero, List.set_cons_succ]
            refine wpAnyH_take (i := 16) (v := .bool W9) rfl (by kernel_rfl) (by kernel_rfl) (by kernel_rfl) (fun _ _ _ h => h) (Or.inl ⟨by rfl, by intro wx hx; go_simp⟩) (by assumption) ?_
            try simp only [List.getElem_toArray, List.getElem_cons_succ, List.getElem_cons_zero, Act.put, List.setIfInBounds_toArray, List.set_cons_zero, List.set_cons_succ]
            refine wpAnyH_take (i := 17) (v := .slice ds A2.length ms) rfl (by kernel_rfl) (by kernel_rfl) (by kernel_rfl) (fun _ _ _ h => h) (Or.inl ⟨by rfl, by intro wx hx; go_simp⟩) (by assumption) ?_
            try simp only [List.getElem_toArray, List.getElem_cons_succ, List.getElem_cons_zero, Act.put, List.setIfInBounds_toArray, List.set_cons_zero, List.set_cons_succ]
            refine wpAnyH_take (i := 18) (v := .int .i64 K9) rfl (by kernel_rfl) (by kernel_rfl) (by kernel_rfl) (fun _ _ _ h => h) (Or.inl ⟨by rfl, by intro wx hx; go_simp⟩) (by assumption) ?_
            try simp only [List.getElem_toArray, List.getElem_cons_succ, List.getElem_cons_zero, Act.put, List.setIfInBounds_toArray, List.set_cons_zero, List.set_cons_succ]
            refine wpAnyH_take (i := 19) (v := .bool W9) rfl (by kernel_rfl) (by kernel_rfl) (by kernel_rfl) (fun _ _ _ h => h) (Or.inl ⟨by rfl, by intro wx hx; go_simp⟩) (by assumption) ?_
            try simp only [List.getElem_toArray, List.getElem_cons_succ, List.getElem_cons_zero, Act.put, List.setIfInBounds_toArray, List.set_cons_zero, List.set_cons_succ]
            refine wpAnyH_done (by kernel_rfl) ?_ _
            have hiT10 := hiT.ext (e := hy10)
            clear ez hX2
            go_wp2_with fail
            with_reducible refine (vInts_same (w0 := w10) (w := w10) hstep hiT10).mono ?_
            rintro e w11 ⟨rfl, e11⟩
            have hstep11 := hstep.ext (w' := w11)
            have hy11 : Ext w25 w11 := Ext.trans hy10 e11
            clear hcT10
            go_wp2_with fail
            go_roundw
            case rel => exact ⟨t + 1, _, by omega, by go_num, by rw [← hg6.out], rfl, by rw [← hA2.out]; exact hstep11, hy11⟩
            case measure => simp [intOf]; omega
          · have hte : t = X.length := by omega
            subst hte
            have htL : X.length < L.length := by have := hLlid.out; omega
            obtain ⟨bL', oL', dl, ml, hdL', hcl, hil, hEl⟩ := hL.at (w' := wq) htL
            cases hdL'
            have hvb := wo_in2 (M := M5) (k := b.length) (ws := row L X.length) (c := A0 X.length)
            have hs2 := hsum2.out
            obtain ⟨v5, hv5⟩ : ∃ q, q = woR M5 b.length (row L X.length) (A0 X.length) := ⟨_, rfl⟩
            rw [← hv5] at hvb hs2
            obtain ⟨NW, hNW⟩ : ∃ q, q = A0 X.length := ⟨_, rfl⟩
            obtain ⟨E, hE⟩ : ∃ q, q = row L X.length := ⟨_, rfl⟩
            rw [← hNW] at hnow hv5
            obtain ⟨dn, mn, hnz, ln⟩ := hnow.form
            subst hnz
            rw [← hE] at hcl hil hEl hv5
            obtain ⟨W9, hW9⟩ : ∃ q, q = woB M5 b.length E NW := ⟨_, rfl⟩
            generalize gs X.length = g4 at *
            replace hNW := hid hNW
            replace hE := hid hE
            replace hv5 := hid hv5
            replace hW9 := hid hW9
            have hrb2 := hrb.out
            have hadd : IntKind.i64.wrap (S5 + v5) = S5 + v5 := IntWalk.i64_in _ (by omega)
            have hX0 := hid (show wq.cell? ⟨p5, 0, none⟩ = some (.slice f5 M5.length c5) ∧ wq.cell? ⟨bL, oL + X.length, none⟩ = some (.slice dl E.length ml) from ⟨hy.cell x5_25, hcl⟩)
            clear hcl
            go_upto_region 28 with fail
            have hSx := hid (show ∀ u, Ext wq u → u.cell? ⟨p5, 0, none⟩ = some (.slice f5 M5.length c5) ∧ u.cell? ⟨bL, oL + X.length, none⟩ = some (.slice dl E.length ml) from fun u e => ⟨e.cell hX0.out.1, e.cell hX0.out.2⟩)
            refine region_held_from (w0 := wq) (S := fun u => u.cell? ⟨p5, 0, none⟩ = some (.slice f5 M5.length c5) ∧ u.cell? ⟨bL, oL + X.length, none⟩ = some (.slice dl E.length ml)) (by kernel_rfl) hSx.out (fun wz ez hHeld0 => ?_)
            refine wpAnyH_take (i := 0) (v := .agg #[.slice f5 M5.length c5]) rfl (by kernel_rfl) (by kernel_rfl) (by kernel_rfl) (fun _ _ _ h => h) (Or.inl ⟨by rfl, by intro wx hx; obtain ⟨_, _⟩ := hx; go_simp⟩) (by assumption) ?_
            try simp only [List.getElem_toArray, List.getElem_cons_zero, Act.put, List.setIfInBounds_toArray, List.set_cons_zero, List.set_cons_succ]
            refine wpAnyH_take (i := 1) (v := .slice db b.length mb) rfl (by kernel_rfl) (by kernel_rfl) (by kernel_rfl) (fun _ _ _ h => h) (Or.inl ⟨by rfl, by intro wx hx; go_simp⟩) (by assumption) ?_
            try simp only [List.getElem_toArray, List.getElem_cons_succ, List.getElem_cons_zero, Act.put, List.setIfInBounds_toArray, List.set_cons_zero, List.set_cons_succ]
            refine wpAnyH_take (i := 2) (v := .int .i64 b.length) rfl (by kernel_rfl) (by kernel_rfl) (by kernel_rfl) (fun _ _ _ h => h) (Or.inl ⟨by rfl, by intro wx hx; go_simp⟩) (by assumption) ?_
            try simp only [List.getElem_toArray, List.getElem_cons_succ, List.getElem_cons_zero, Act.put, List.setIfInBounds_toArray, List.set_cons_zero, List.set_cons_succ]
            refine wpAnyH_take (i := 3) (v := .slice (some ⟨bL, oL, none⟩) L.length mL) rfl (by kernel_rfl) (by kernel_rfl) (by kernel_rfl) (fun _ _ _ h => h) (Or.inl ⟨by rfl, by intro wx hx; go_simp⟩) (by assumption) ?_
            try simp only [List.getElem_toArray, List.getElem_cons_succ, List.getElem_cons_zero, Act.put, List.setIfInBounds_toArray, List.set_cons_zero, List.set_cons_succ]
            refine wpAnyH_take (i := 4) (v := .slice dX X.length mX) rfl (by kernel_rfl) (by kernel_rfl) (by kernel_rfl) (fun _ _ _ h => h) (Or.inl ⟨by rfl, by intro wx hx; go_simp⟩) (by assumption) ?_
            try simp only [List.getElem_toArray, List.getElem_cons_succ, List.getElem_cons_zero, Act.put, List.setIfInBounds_toArray, List.set_cons_zero, List.set_cons_succ]
            refine wpAnyH_take (i := 5) (v := .int .i64 X.length) rfl (by kernel_rfl) (by kernel_rfl) (by kernel_rfl) (fun _ _ _ h => h) (Or.inl ⟨by rfl, by intro wx hx; go_simp⟩) (by assumption) ?_
            try simp only [List.getElem_toArray, List.getElem_cons_succ, List.getElem_cons_zero, Act.put, List.setIfInBounds_toArray, List.set_cons_zero, List.set_cons_succ]
            refine wpAnyH_take (i := 6) (v := .pointer (some ⟨bL, oL + X.length, none⟩)) rfl (by kernel_rfl) (by kernel_rfl) (by kernel_rfl) (fun _ _ _ h => h) (Or.inl ⟨by rfl, by intro wx hx; go_simp⟩) (by assumption) ?_
            try simp only [List.getElem_toArray, List.getElem_cons_succ, List.getElem_cons_zero, Act.put, List.setIfInBounds_toArray, List.set_cons_zero, List.set_cons_succ]
            refine wpAnyH_take (i := 7) (v := .slice dl E.length ml) rfl (by kernel_rfl) (by kernel_rfl) (by kernel_rfl) (fun _ _ _ h => h) (Or.inl ⟨by rfl, by intro wx hx; obtain ⟨_, _⟩ := hx; go_simp⟩) (by assumption) ?_
            try simp only [List.getElem_toArray, List.getElem_cons_succ, List.getElem_cons_zero, Act.put, List.setIfInBounds_toArray, List.set_cons_zero, List.set_cons_succ]
            refine wpAnyH_take (i := 8) (v := .slice dn NW.length mn) rfl (by kernel_rfl) (by kernel_rfl) (by kernel_rfl) (fun _ _ _ h => h) (Or.inl ⟨by rfl, by intro wx hx; go_simp⟩) (by assumption) ?_
            try simp only [List.getElem_toArray, List.getElem_cons_succ, List.getElem_cons_zero, Act.put, List.setIfInBounds_toArray, List.set_cons_zero, List.set_cons_succ]
            refine wpAnyH_ready (rs := [9]) (by kernel_rfl) (by simp) ?_
            refine AllReadyH.cons rfl (fun K hK => ?_) AllReadyH.nil
            go_simp
            have hmz := hm5.ext (e := Ext.trans (Ext.trans g2225 hy) ez)
            have hiz := hil.ext (e := Ext.trans hy ez)
            have hnz := hnow.ext (w' := wz)
            go_at_call 19
            with_reducible refine (implWorkOf_any (w0 := wz) (w := wz) hmz hiz hnz).mono ?_
            rw [← hv5.out, ← hW9.out]
            rintro e w9 ⟨rfl, e9⟩
            have hX1 := hid (hSx.out w9 (Ext.trans ez e9))
            have hy9 : Ext w25 w9 := Ext.trans hy (Ext.trans ez e9)
            have hm9 := hm5.ext (e := Ext.trans g2225 hy9)
            have hb9 := hb5.ext (e := Ext.trans g2225 hy9)
            have hX9 := hX5.ext (e := Ext.trans g2225 hy9)
            clear hmz hiz hSx hHeld0 hnz
            go_wp2_with fail
            refine hK.out _ _ hX1.out (fun _ => ?_)
            clear hK K
            try simp only [List.getElem_toArray, List.getElem_cons_succ, List.getElem_cons_zero, Act.put, List.setIfInBounds_toArray, List.set_cons_zero, List.set_cons_succ]
            refine wpAnyH_take (i := 10) (v := .tuple #[.int .i64 v5, .bool W9]) rfl (by kernel_rfl) (by kernel_rfl) (by kernel_rfl) (fun _ _ _ h => h) (Or.inl ⟨by rfl, by intro wx hx; go_simp⟩) (by assumption) ?_
            try simp only [List.getElem_toArray, List.getElem_cons_succ, List.getElem_cons_zero, Act.put, List.setIfInBounds_toArray, List.set_cons_zero, List.set_cons_succ]
            refine wpAnyH_take (i := 11) (v := .int .i64 v5) rfl (by kernel_rfl) (by kernel_rfl) (by kernel_rfl) (fun _ _ _ h => h) (Or.inl ⟨by rfl, by intro wx hx; go_simp⟩) (by assumption) ?_
            try simp only [List.getElem_toArray, List.getElem_cons_succ, List.getElem_cons_zero, Act.put, List.setIfInBounds_toArray, List.set_cons_zero, List.set_cons_succ]
            refine wpAnyH_take (i := 12) (v := .bool W9) rfl (by kernel_rfl) (by kernel_rfl) (by kernel_rfl) (fun _ _ _ h => h) (Or.inl ⟨by rfl, by intro wx hx; go_simp⟩) (by assumption) ?_
            try simp only [List.getElem_toArray, List.getElem_cons_succ, List.getElem_cons_zero, Act.put, List.setIfInBounds_toArray, List.set_cons_zero, List.set_cons_succ]
            refine wpAnyH_take (i := 13) (v := .int .i64 v5) rfl (by kernel_rfl) (by kernel_rfl) (by kernel_rfl) (fun _ _ _ h => h) (Or.inl ⟨by rfl, by intro wx hx; go_simp⟩) (by assumption) ?_
            try simp only [List.getElem_toArray, List.getElem_cons_succ, List.getElem_cons_zero, Act.put, List.setIfInBounds_toArray, List.set_cons_zero, List.set_cons_succ]
            refine wpAnyH_take (i := 14) (v := .bool W9) rfl (by kernel_rfl) (by kernel_rfl) (by kernel_rfl) (fun _ _ _ h => h) (Or.inl ⟨by rfl, by intro wx hx; go_simp⟩) (by assumption) ?_
            try simp only [List.getElem_toArray, List.getElem_cons_succ, List.getElem_cons_zero, Act.put, List.setIfInBounds_toArray, List.set_cons_zero, List.set_cons_succ]
            refine wpAnyH_done (by kernel_rfl) ?_ _
            have x5_9 := hX1.out.1
            clear ez hX1 hX0
            go_wp2_with fail
            with_reducible refine (implLeast_any (w0 := w9) (w := w9) hm9 hb9 hX9).mono ?_
            rw [← hK5.out, hQ5.out]
            rintro e w10 ⟨rfl, e10⟩
            have hSS : (S5 == S5) = true := by simp
            have hle1 : decide (S5 + v5 ≤ g4) = true := decide_eq_true hs2
            have hle2 : decide (K5 ≤ S5) = true := decide_eq_true hls.out
            have gend : Ext w w10 := Ext.trans e1 (Ext.trans g25 (Ext.trans hy9 e10))
            clear x5_9
            by_cases hb1 : 1 < b.length
            · have hb1' : (1 : Int) < (b.length : Int) := by omega
              have hb2 : decide ((1 : Int) < (b.length : Int)) = true := decide_eq_true hb1'
              go_wp2_with fail
              go_ret
              exact ⟨rfl, gend⟩
            · have hb1' : ¬ (1 : Int) < (b.length : Int) := by omega
              have hb2 : decide ((1 : Int) < (b.length : Int)) = false := decide_eq_false hb1'
              have hSK := hone.out (by have := hbl1.out hQ5.out; omega)
              subst hSK
              go_wp2_with fail
              go_ret
              exact ⟨rfl, gend⟩
end Go.Proofs.YtmgcfnciejfpbaaGreat
