/- FarConfig: program and reference. -/
import Derived.Test.YtmgcfnciejfpbaaGreatQGwF
namespace Go.Proofs.YtmgcfnciejfpbaaGreat
open Go.RowKit

theorem far_lt {M P : List (List Int)} {ws : List Int} {r : Int} (h : 1 ≤ P.length) : farTo M P ws r P.length < P.length := by
  have := (far_spec (M := M) (P := P) (ws := ws) (r := r) P.length).1
  omega
set_option maxHeartbeats 1600000 in
set_option maxRecDepth 100000 in
theorem specFar_any {v vw : Value} {M : List (List Int)} {ws : List Int} {k r : Int} {w0 w : World} [Ext w0 w] (hm : IsMet w0 v M) (hw : IsInts w0 vw ws) :
    Calls Tryz.prog 59 #[v, .int .i64 k, vw, .int .i64 r] w fun e w' => ∃ u, e = .returned (.tuple #[u, .bool (givB M k ws r)]) ∧ IsInts w' u (fcR M k ws r) ∧ Ext w w' := by
  have hm' := hm
  obtain ⟨v1, rfl, hR⟩ := hm
  obtain ⟨a1, c1, rfl, l1⟩ := hR.form
  have hw' := hw
  obtain ⟨dw, mw, rfl, lw⟩ := hw.form
  have x0 : (w.alloc (.cells #[.slice a1 M.length c1] 26)).cell? ⟨w.heap.size, 0, none⟩ = some (.slice a1 M.length c1) := by go_simp
  cases hq : givB M k ws r with
  | false =>
    have hr := hid (show fcR M k ws r = [] by rw [fcR, hq]; rfl)
    replace hq := hid hq
    go_enter Tryz.func59, Tryz.ntmps59
    go_wp2_with fail
    with_reducible refine (l7Given_any (w0 := w0) hm' hw').mono ?_
    rw [hq.out]
    rintro e w1 ⟨rfl, e1⟩
    go_wp2_with fail
    go_ret2
    exact ⟨_, ret_tuple2 rfl rfl, by rw [hr.out]; exact ints_none _ _ _, Ext.trans inferInstance (Ext.trans e1 inferInstance)⟩
  | true =>
    obtain ⟨hM, ⟨hk1, hk3⟩, hrr, hwb⟩ := giv_parts hq
    obtain ⟨kn, rfl⟩ := Int.eq_ofNat_of_zero_le (show 0 ≤ k by omega)
    obtain ⟨rn, rfl⟩ := Int.eq_ofNat_of_zero_le hrr.1
    rw [Int.toNat_natCast] at hwb
    have hMl := met_len hM
    have hkn : kn ≤ 3 := by omega
    have h216 := confs_216 hMl.2 hkn
    have hcp := confs_pos (k := kn) hMl.1
    have hg := work_good (M := M) (P := confs M.length kn 0) (ws := ws) hwb
    have hlw := hid hg.1.1
    have hb1 := hid (show ∀ j, j < ws.length → 0 ≤ nth ws j ∧ nth ws j ≤ 1000000 from fun j hj => by have := hg.2 j (by rw [← hg.1.1]; exact hj); omega)
    have hPm := hid (show ∀ i, i < (confs M.length kn 0).length → (row (confs M.length kn 0) i).length ≤ 3 ∧ Pts M.length (row (confs M.length kn 0) i) from fun i hi => by
      obtain ⟨g1, g2, _⟩ := row_conf hi
      exact ⟨by omega, g2⟩)
    have hrn : rn < M.length := by omega
    have hfr := hid (show fcR M kn ws rn = row (confs M.length kn 0) (farTo M (confs M.length kn 0) ws rn (confs M.length kn 0).length) by rw [fcR, if_pos hq, Int.toNat_natCast])
    have hfl := far_lt (M := M) (P := confs M.length kn 0) (ws := ws) (r := (rn : Int)) hcp
    have hM' := hid hM
    clear hM hg hwb hrr
    replace hq := hid hq
    go_enter Tryz.func59, Tryz.ntmps59
    go_wp2_with fail
    with_reducible refine (l7Given_any (w0 := w0) hm' hw').mono ?_
    rw [hq.out]
    rintro e w1 ⟨rfl, e1⟩
    have x1 := e1.cell x0
    have e1w : Ext w w1 := Ext.trans inferInstance e1
    have e01 : Ext w0 w1 := Ext.trans ‹Ext w0 w› e1w
    clear x0
    go_wp2_with fail
    with_reducible refine (l6Configs_any (n := M.length) (k := kn) hMl.2 hkn _).mono ?_
    rintro e w2 ⟨vP, rfl, hP, e2⟩
    have e02 : Ext w0 w2 := Ext.trans e01 e2
    have x2 := e2.cell x1
    have hm2 := hm'.ext (e := e02)
    have hw2 := hw'.ext (e := e02)
    have hP' := hP
    obtain ⟨aP, cP, rfl, lP⟩ := hP.form
    clear x1
    go_wp2_with fail
    with_reducible refine (l7Far_any (w0 := w2) (w := w2) hm2 hM'.out hP' hw2 hPm.out hcp hlw.out hb1.out hrn).mono ?_
    obtain ⟨F, hF⟩ : ∃ z, z = farTo M (confs M.length kn 0) ws rn (confs M.length kn 0).length := ⟨_, rfl⟩
    rw [← hF] at hfr hfl ⊢
    replace hF := hid hF
    rintro e w3 ⟨rfl, e3⟩
    obtain ⟨bP, oP, dc, mc, hdP, hcP, hiP, _⟩ := hP.at (w' := w3) (k := F) hfl
    subst hdP
    rw [← hfr.out] at hcP hiP
    obtain ⟨A, hA⟩ : ∃ z, z = fcR M kn ws rn := ⟨_, rfl⟩
    rw [← hA] at hcP hiP
    replace hA := hid hA
    have hiA := hiP.ext (w' := w3)
    clear hfr
    go_wp2_with fail
    go_ret2
    exact ⟨_, ret_tuple2 rfl rfl, by rw [← hA.out]; exact hiA, Ext.trans e1w (Ext.trans e2 e3)⟩
set_option maxHeartbeats 3200000 in
set_option maxRecDepth 100000 in
theorem implFar_any {v vw : Value} {M : List (List Int)} {ws : List Int} {k r : Int} {w0 w : World} [Ext w0 w] (hm : IsMet w0 v M) (hw : IsInts w0 vw ws) :
    Calls Tryz.prog 58 #[v, .int .i64 k, vw, .int .i64 r] w fun e w' => ∃ u, e = .returned (.tuple #[u, .bool (givB M k ws r)]) ∧ IsInts w' u (fcR M k ws r) ∧ Ext w w' := by
  have hm' := hm
  obtain ⟨v1, rfl, hR⟩ := hm
  obtain ⟨a1, c1, rfl, l1⟩ := hR.form
  have hw' := hw
  obtain ⟨dw, mw, rfl, lw⟩ := hw.form
  have x0 : (w.alloc (.cells #[.slice a1 M.length c1] 26)).cell? ⟨w.heap.size, 0, none⟩ = some (.slice a1 M.length c1) := by go_simp
  cases hq : (askB M k && workB M (confs M.length k.toNat 0) ws) with
  | false =>
    have hr := hid (show givB M k ws r = false by
      cases h : givB M k ws r with
      | false => rfl
      | true =>
        simp only [givB, Bool.and_eq_true] at h
        rw [h.1, h.2.2] at hq
        cases hq)
    have hr2 := hid (show fcR M k ws r = [] by rw [fcR, hr.out]; rfl)
    replace hq := hid hq
    go_enter Tryz.func58, Tryz.ntmps58
    go_wp2_with fail
    with_reducible refine (worksFor_any (w0 := w0) hm' hw').mono ?_
    rw [hq.out]
    rintro e w1 ⟨u, rfl, _, e1⟩
    go_wp2_with fail
    go_ret2
    exact ⟨_, ret_tuple2 rfl (by rw [hr.out]; rfl), by rw [hr2.out]; exact IsInts.nil _, Ext.trans inferInstance e1⟩
  | true =>
    have hqa := hq
    simp only [Bool.and_eq_true] at hqa
    obtain ⟨hM, hk1, hk3⟩ := askB_iff.1 hqa.1
    obtain ⟨kn, rfl⟩ := Int.eq_ofNat_of_zero_le (show 0 ≤ k by omega)
    rw [Int.toNat_natCast] at hqa
    have hMl := met_len hM
    have hkn : kn ≤ 3 := by omega
    have h216 := confs_216 hMl.2 hkn
    have hcp := confs_pos (k := kn) hMl.1
    have hg := work_good (M := M) (P := confs M.length kn 0) (ws := ws) hqa.2
    have hM' := hid hM
    have hask := hid hqa
    cases hi : inB r 0 (M.length - 1) with
    | false =>
      have hr := hid (show givB M kn ws r = false by simp [givB, hi])
      have hr2 := hid (show fcR M kn ws r = [] by rw [fcR, hr.out]; rfl)
      clear hg hqa hM
      replace hi := hid hi
      replace hq := hid hq
      go_enter Tryz.func58, Tryz.ntmps58
      go_wp2_with fail
      with_reducible refine (worksFor_any (w0 := w0) hm' hw').mono ?_
      rw [hq.out]
      rintro e w1 ⟨u, rfl, _, e1⟩
      have x1 := e1.cell x0
      have e1w : Ext w w1 := Ext.trans inferInstance e1
      have e01 : Ext w0 w1 := Ext.trans ‹Ext w0 w› e1w
      clear x0
      go_wp2_with fail
      with_reducible refine (isPoint_any (w0 := w0) hm').mono ?_
      rw [hi.out]
      rintro e w2 ⟨rfl, e2⟩
      go_wp2_with fail
      go_ret2
      exact ⟨_, ret_tuple2 rfl (by rw [hr.out]; rfl), by rw [hr2.out]; exact IsInts.nil _, Ext.trans e1w e2⟩
    | true =>
      have hrr : 0 ≤ r ∧ r < (M.length : Int) := by have := inB_true.1 hi; omega
      obtain ⟨rn, rfl⟩ := Int.eq_ofNat_of_zero_le hrr.1
      have hrn : rn < M.length := by omega
      have hgv : givB M kn ws rn = true := by rw [givB, hi, Int.toNat_natCast, hqa.1, hqa.2]; rfl
      have hdst := hid (dst_of_met hM)
      have hMr := hid (fun (y : Nat) (hy : y < M.length) => met_row hM hy)
      have hlw := hid hg.1.1
      have hb1 := hid (show ∀ j, j < ws.length → 0 ≤ nth ws j ∧ nth ws j ≤ 1000000 from fun j hj => by have := hg.2 j (by rw [← hg.1.1]; exact hj); omega)
      have hPm := hid (show ∀ i, i < (confs M.length kn 0).length → (row (confs M.length kn 0) i).length ≤ 3 ∧ Pts M.length (row (confs M.length kn 0) i) from fun i hi => by
        obtain ⟨g1, g2, _⟩ := row_conf hi
        exact ⟨by omega, g2⟩)
      have hfr := hid (show fcR M kn ws rn = row (confs M.length kn 0) (farTo M (confs M.length kn 0) ws rn (confs M.length kn 0).length) by rw [fcR, if_pos hgv, Int.toNat_natCast])
      have hfl := hid (far_lt (M := M) (P := confs M.length kn 0) (ws := ws) (r := (rn : Int)) hcp)
      clear hg hqa hM
      replace hi := hid hi
      replace hq := hid hq
      replace hgv := hid hgv
      replace hrr := hid hrr
      go_enter Tryz.func58, Tryz.ntmps58
      go_wp2_with fail
      with_reducible refine (worksFor_any (w0 := w0) hm' hw').mono ?_
      rw [hq.out]
      rintro e w1 ⟨u, rfl, hW, e1⟩
      replace hW := hW rfl
      rw [Int.toNat_natCast] at hW
      have x1 := e1.cell x0
      have e1w : Ext w w1 := Ext.trans inferInstance e1
      have e01 : Ext w0 w1 := Ext.trans ‹Ext w0 w› e1w
      clear x0
      go_wp2_with fail
      with_reducible refine (isPoint_any (w0 := w0) hm').mono ?_
      rw [hi.out]
      rintro e w2 ⟨rfl, e2⟩
      have x2 := e2.cell x1
      have e2w : Ext w w2 := Ext.trans e1w e2
      have e02 : Ext w0 w2 := Ext.trans e01 e2
      have hW2 := hW.ext (w' := w2)
      obtain ⟨bx, mv, pv, cv, rfl, h0, h1, h2, hR2, hP, hCs⟩ := hW2
      clear h0 h2 hR2 hCs x1 hW
      obtain ⟨aP, cP, rfl, lP⟩ := hP.form
      obtain ⟨P, hPd⟩ : ∃ p, p = confs M.length kn 0 := ⟨_, rfl⟩
      rw [← hPd] at h1 hP hcp h216 hlw hPm hfr hfl lP
      replace hPd := hid hPd
      have hR2 := hR.ext (e := e02)
      have hw2 := hw'.ext (e := e02)
      obtain ⟨bP, oP, _, _, hdP, _, _, _⟩ := hP.at (w' := w2) (k := 0) (by omega)
      subst hdP
      have h216' := hid h216
      generalize w.heap.size = bm at *
      clear hw hR
      go_wp2_with fail
      go_loopw [12, 13, 39] (fun bv lv iv wr => ∃ (i : Nat) (bz : Value), i ≤ P.length ∧ iv = .int .i64 i ∧ bz = bv ∧ w2 = wr ∧ ((i = 0 ∧ bz = .slice none 0 0 ∧ lv = .int .i64 1073741824) ∨ (1 ≤ i ∧ lv = .int .i64 (farV M P ws rn (farTo M P ws rn i)) ∧ IsInts w2 bz (row P (farTo M P ws rn i))))) (fun _ _ iv _ => P.length - (intOf iv).toNat)
      case atStart => exact ⟨0, .slice none 0 0, by omega, rfl, rfl, rfl, .inl ⟨rfl, rfl, rfl⟩⟩
      case round =>
        obtain ⟨i, bz, hi2, rfl, rfl, rfl, hb⟩ := hrel
        by_cases hlt : i < P.length
        · obtain ⟨bP1, oP1, dc, mc, hd1, hc1, hi1, _⟩ := hP.at (w' := w2) (k := i) hlt
          cases hd1
          have hiw : i < ws.length := by rw [hlw.out]; exact hlt
          obtain ⟨bw, ow, hdw, hcw⟩ := hw2.at (w' := w2) hiw
          subst hdw
          have w1b := hb1.out i hiw
          obtain ⟨p1, p2⟩ := hPm.out i hlt
          have hfv := hid (show farV M P ws rn i = nth ws i - dsTo M (row P i) rn (row P i).length from rfl)
          have hsb := hid (fun (j : Nat) (hj : j ≤ (row P i).length) => ds_bound (M := M) (x := row P i) (r := (rn : Int)) hdst.out p2 (by omega) p1 hj)
          obtain ⟨x1', hx1⟩ : ∃ z, z = nth ws i := ⟨_, rfl⟩
          rw [← hx1] at hcw w1b hfv
          replace hx1 := hid hx1
          obtain ⟨A, hA⟩ : ∃ z, z = row P i := ⟨_, rfl⟩
          rw [← hA] at hc1 hi1 p1 p2 hfv hsb
          replace hA := hid hA
          replace hb := hid hb
          go_wp2_with fail
          go_loopw [16, 50] (fun vv jv wr => ∃ j : Nat, j ≤ A.length ∧ jv = .int .i64 j ∧ vv = .int .i64 (x1' - dsTo M A rn j) ∧ w2 = wr) (fun _ jv _ => A.length - (intOf jv).toNat)
          case atStart => exact ⟨0, by omega, rfl, by simp [dsTo], rfl⟩
          case round =>
            obtain ⟨j, hj, rfl, rfl, rfl⟩ := hrel
            by_cases hlj : j < A.length
            · obtain ⟨bc, oc, p, hd2, hpe, hpM, hcc⟩ := hi1.pt (w' := w2) p2 (k := j) hlj
              subst hd2
              obtain ⟨bM, oM, dR, mR, hdM, hcM, hiR, _⟩ := hR2.at (w' := w2) (k := p) hpM
              subst hdM
              have hRl : rn < (row M p).length := by rw [hMr.out p hpM]; exact hrn
              obtain ⟨bR, oR, hdR, hcR⟩ := hiR.at (w' := w2) (k := rn) hRl
              subst hdR
              have h1b := hsb.out j (by omega)
              have h2b : 0 ≤ nth (row M p) rn ∧ nth (row M p) rn ≤ 99 := hdst.out.pos p rn hpM hrn
              obtain ⟨g2, hg2⟩ : ∃ z, z = dsTo M A rn (j + 1) := ⟨_, rfl⟩
              have hgn := hid (show g2 = dsTo M A rn j + nth (row M p) rn by
                rw [hg2, dsTo, hpe]
                rfl)
              replace hg2 := hid hg2
              replace hpe := hid hpe
              generalize dsTo M A rn j = g at *
              obtain ⟨dc', hdc⟩ : ∃ y, y = nth (row M p) rn := ⟨_, rfl⟩
              rw [← hdc] at hcR hgn h2b
              replace hdc := hid hdc
              obtain ⟨Rx, hRx⟩ : ∃ y, y = row M p := ⟨_, rfl⟩
              rw [← hRx] at hcM hiR hRl
              replace hRx := hid hRx
              have hsub : IntKind.i64.wrap (x1' - g - dc') = x1' - g - dc' := IntWalk.i64_in _ (by omega)
              go_wp2_with fail
              go_roundw
              case rel => exact ⟨j + 1, by omega, by go_num, by rw [← hg2.out, hgn.out]; congr 1; omega, trivial⟩
              case measure => simp [intOf]; omega
            · have hje : j = A.length := by omega
              subst hje
              have hlb := hsb.out A.length (Nat.le_refl _)
              rw [← hfv.out]
              have hvb : -297 ≤ farV M P ws rn i ∧ farV M P ws rn i ≤ 1000000 := by have := hfv.out; omega
              have hnx := hid (show farTo M P ws rn (i + 1) = if farV M P ws rn i < farV M P ws rn (farTo M P ws rn i) then i else farTo M P ws rn i from rfl)
              obtain ⟨y, hy⟩ : ∃ z, z = farV M P ws rn i := ⟨_, rfl⟩
              rw [← hy] at hvb hnx ⊢
              replace hy := hid hy
              have hiA : IsInts w2 (.slice dc A.length mc) A := hi1.ext
              rcases hb.out with ⟨hi0, rfl, rfl⟩ | ⟨hi1', hl, hbi⟩
              · have hlt2 : y < 1073741824 := by omega
                have hz := hid (show farTo M P ws rn (i + 1) = i by rw [hi0]; exact far_one)
                replace hi0 := hid hi0
                go_wp2_with fail
                go_roundw
                case rel => exact ⟨i + 1, _, by omega, by go_num, rfl, trivial, .inr ⟨by omega, by rw [hz.out, ← hy.out], by rw [hz.out, ← hA.out]; exact hiA⟩⟩
                case measure => simp [intOf]; omega
              · obtain ⟨l, hll⟩ : ∃ z, z = farV M P ws rn (farTo M P ws rn i) := ⟨_, rfl⟩
                rw [← hll] at hl hnx
                replace hll := hid hll
                subst hl
                by_cases hless : y < l
                · have hz := hid (show farTo M P ws rn (i + 1) = i by rw [hnx.out, if_pos hless])
                  clear hnx
                  go_wp2_with fail
                  go_roundw
                  case rel => exact ⟨i + 1, _, by omega, by go_num, rfl, trivial, .inr ⟨by omega, by rw [hz.out, ← hy.out], by rw [hz.out, ← hA.out]; exact hiA⟩⟩
                  case measure => simp [intOf]; omega
                · have hz := hid (show farTo M P ws rn (i + 1) = farTo M P ws rn i by rw [hnx.out, if_neg hless])
                  clear hnx
                  go_wp2_with fail
                  go_roundw
                  case rel => exact ⟨i + 1, _, by omega, by go_num, rfl, trivial, .inr ⟨by omega, by rw [hz.out, ← hll.out], by rw [hz.out]; exact hbi⟩⟩
                  case measure => simp [intOf]; omega
        · have hie : i = P.length := by omega
          subst hie
          have hbi : IsInts w2 bz (fcR M kn ws rn) := by
            rcases hb with ⟨h0, _⟩ | ⟨_, _, h⟩
            · omega
            · rw [hfr.out]; exact h
          have hgv2 := hid hgv.out
          clear hb
          generalize hFC : fcR M kn ws rn = F at *
          replace hFC := hid hFC
          obtain ⟨dF, mF, rfl, lF⟩ := hbi.form
          go_wp2_with fail
          refine (cloneInts_any (w0 := w2) (w := w2) hbi).mono ?_
          rintro e w6 ⟨d6, m6, rfl, own6, e6⟩
          obtain ⟨_, _, _, hsh, h64, _⟩ := hbi
          have hI6 : IsInts w6 (.slice d6 F.length m6) F := own6.reads hsh.1 h64
          go_wp2_with fail
          go_ret2
          exact ⟨_, ret_tuple2 rfl (by rw [hgv2.out]; rfl), by rw [hFC.out]; exact hI6, Ext.trans e2w e6⟩
end Go.Proofs.YtmgcfnciejfpbaaGreat
