/- Several texts in one: the last ones and the statement. -/
import Derived.Test.YtmgcfnciejfpbaaTailFnMoves0
import Derived.Test.YtmgcfnciejfpbaaCur
/- 'laws.FnMoves': for every code the law returns true. -/
namespace Go.Proofs.Ytmgcfnciejfpbaa
open Go.RowKit

theorem IsMet.ext {w w' : World} {v : Value} {M : List (List Int)} (h : IsMet w v M) [e : Ext w w'] : IsMet w' v M := by
  obtain ⟨v1, rfl, hR⟩ := h
  exact ⟨v1, rfl, hR.ext⟩

set_option maxHeartbeats 6400000 in
set_option maxRecDepth 100000 in
theorem lawFnMoves_any {v : Value} {nb : Nat} {w : World} (hc : IsBytes w v nb) :
    Calls Try.prog 4 #[v] w fun e w' => e = .returned (.bool true) ∧ Ext w w' := by
  have hc' := hc
  obtain ⟨ac, cc, rfl⟩ := hc.form
  by_cases hbig : 65536 < nb
  · have hd := hid (decide_eq_true hbig)
    go_enter Try.func4, Try.ntmps4
    go_wp2_with fail
    refine (rBig_l hc').mono ?_
    rw [hd.out]
    rintro e w1 ⟨rfl, rfl⟩
    go_wp2_with fail
    go_ret
    exact ⟨rfl, Ext.refl _⟩
  · have hd := hid (decide_eq_false hbig)
    go_enter Try.func4, Try.ntmps4
    go_wp2_with fail
    refine (rBig_l hc').mono ?_
    rw [hd.out]
    rintro e w1 ⟨rfl, rfl⟩
    go_wp2_with fail
    refine (drawMV_any (w0 := w) (w := w) hc').mono ?_
    rintro e w1 ⟨mv, av, bv, M, a, b, rfl, hm, ha, hb, hMok, hal, hbl, e1⟩
    have hm' := hm
    have ha' := ha
    have hb' := hb
    obtain ⟨rv, rfl, hR⟩ := hm
    obtain ⟨fM, cM, rfl, lM⟩ := hR.form
    obtain ⟨da, ma, rfl, la⟩ := ha.form
    obtain ⟨db, mb, rfl, lb⟩ := hb.form
    go_upto_region 4 with fail
    have g2 : Ext w1 (w1.alloc (.cells #[.slice fM M.length cM] 29)) := inferInstance
    have x0_2 : (w1.alloc (.cells #[.slice fM M.length cM] 29)).cell? ⟨w1.heap.size, 0, none⟩ = some (.slice fM M.length cM) := by go_simp
    obtain ⟨p, hp⟩ : ∃ r, r = w1.heap.size := ⟨_, rfl⟩
    rw [← hp] at x0_2 ⊢
    replace hp := hid hp
    generalize w1.alloc (.cells #[.slice fM M.length cM] 29) = w2 at *
    obtain ⟨K, hK⟩ : ∃ q, q = mcR M a b := ⟨_, rfl⟩
    obtain ⟨Q, hQ⟩ : ∃ q, q = mvB M a b := ⟨_, rfl⟩
    obtain ⟨T, hT⟩ : ∃ q, q = maR M a b := ⟨_, rfl⟩
    replace hK := hid hK
    replace hQ := hid hQ
    replace hT := hid hT
    go_wp2_with fail
    with_reducible refine (implMove_any (w0 := w1) (w := w2) hm' ha' hb').mono ?_
    rw [← hK.out, ← hQ.out]
    rintro e w3 ⟨rfl, e3⟩
    have x0_3 := e3.cell x0_2
    have g3 : Ext w1 w3 := Ext.trans g2 e3
    clear x0_2
    go_wp2_with fail
    with_reducible refine (specMove_any (w0 := w1) (w := w3) hm' ha' hb').mono ?_
    rw [← hK.out, ← hQ.out]
    rintro e w4 ⟨rfl, e4⟩
    have x0_4 := e4.cell x0_3
    have g4 : Ext w1 w4 := Ext.trans g3 e4
    clear x0_3
    have hKK : (K != K) = false := by simp
    have hQQ : (Q != Q) = false := by simp
    go_wp2_with fail
    with_reducible refine (implMatch_any (w0 := w1) (w := w4) hm' ha' hb').mono ?_
    rw [← hQ.out, ← hT.out]
    rintro e w5 ⟨tv, rfl, ht, e5⟩
    have x0_5 := e5.cell x0_4
    have g5 : Ext w1 w5 := Ext.trans g4 e5
    obtain ⟨dt, mt, rfl, lt⟩ := ht.form
    clear x0_4
    go_wp2_with fail
    with_reducible refine (specMatch_any (w0 := w1) (w := w5) hm' ha' hb').mono ?_
    rw [← hQ.out, ← hT.out]
    rintro e w6 ⟨uv, rfl, hu, e6⟩
    have x0_6 := e6.cell x0_5
    have g6 : Ext w1 w6 := Ext.trans g5 e6
    have ht6 := ht.ext (w' := w6)
    obtain ⟨du, mu, rfl, lu⟩ := hu.form
    clear x0_5
    go_wp2_with fail
    with_reducible refine (rInts_same (w0 := w6) (w := w6) ht6 hu).mono ?_
    rintro e w7 ⟨rfl, e7⟩
    have x0_7 := e7.cell x0_6
    have g7 : Ext w1 w7 := Ext.trans g6 e7
    have ht7 := ht6.ext (w' := w7)
    clear x0_6 ht ht6 hu
    cases Q with
    | false =>
      go_wp2_with fail
      go_ret
      exact ⟨rfl, Ext.trans e1 g7⟩
    | true =>
      have hB : mvB M a b = true := hQ.out.symm
      have hTm := hid (show T = matL M a b by rw [hT.out, maR, if_pos hB])
      have hKm := hid (show K = mvC M a b by rw [hK.out, mcR, if_pos hB])
      obtain ⟨hd1, hpa, hpb, hl, h13, _, _⟩ := mv_parts hB
      obtain ⟨hm1, hm2, hm3, hm4⟩ := mv_match hB
      have hTl := hid (show T.length = a.length by rw [hTm.out]; exact hm1)
      have hrp := hid (show Pts a.length T from fun x hx => by
        obtain ⟨i, hi, rfl⟩ := mem_iff_nth.1 hx
        rw [hTm.out] at hi ⊢
        exact hm2 i (by rw [hm1] at hi; exact hi))
      have hsumK := hid (show cTo M a (pickL b T) a.length = K by rw [hTm.out, hKm.out]; exact hm3)
      have hct := hid (show ∀ i, i ≤ a.length → 0 ≤ cTo M a (pickL b T) i ∧ cTo M a (pickL b T) i ≤ 99 * i by rw [hTm.out]; exact hm4)
      have hK3 : 0 ≤ K ∧ K ≤ 297 := by rw [hKm.out]; exact mv_in hB
      have hsq := hid (met_sq (mvB_iff.1 hB).1)
      have hn16 := met_len (mvB_iff.1 hB).1
      clear hm1 hm2 hm3 hm4
      replace hd1 := hid hd1
      replace hpa := hid hpa
      replace hpb := hid hpb
      replace hl := hid hl
      replace hB := hid hB
      have hal3 := h13.2
      have hal1 := h13.1
      clear h13
      go_wp2_with fail
      go_loopw [14, 15] (fun s i wr => ∃ t : Nat, t ≤ T.length ∧ i = .int .i64 t ∧ s = .int .i64 (cTo M a (pickL b T) t) ∧ Ext w7 wr) (fun _ i _ => T.length - (intOf i).toNat)
      case atStart => exact ⟨0, by omega, rfl, rfl, Ext.refl _⟩
      case round =>
        obtain ⟨t, ht, rfl, rfl, hy⟩ := hrel
        obtain ⟨wq, rfl⟩ : ∃ y : World, y = wr := ⟨_, rfl⟩
        have e1q : Ext w1 wq := Ext.trans g7 hy
        have x0q := hy.cell x0_7
        have hTa : T.length ≤ 3 := by rw [hTl.out]; exact hal3
        by_cases hltt : t < T.length
        · have hta : t < a.length := by have := hTl.out; omega
          obtain ⟨br, orr, k, hd1', hk1, hk2, hk3⟩ := ht7.pt hrp.out (w' := wq) hltt
          obtain ⟨ba, oa, x, hd2, hx1, hx2, hx3⟩ := ha'.pt hpa.out (w' := wq) hta
          obtain ⟨bb, ob, y, hd3, hy1, hy2, hy3⟩ := hb'.pt hpb.out (w' := wq) (k := k) (by have := hl.out; omega)
          cases hd1'
          cases hd2
          cases hd3
          obtain ⟨b4, o4, d4, m4, hd4, hc4, hi4, _⟩ := hR.at (w' := wq) (k := x) hx2
          cases hd4
          have hrow := hid (square_row hsq.out hx2)
          obtain ⟨d5, o5, hd5, hc5⟩ := hi4.at (w' := wq) (k := y) (by rw [hrow.out]; exact hy2)
          cases hd5
          have hlb : k < b.length := by have := hl.out; omega
          have hlrow : y < (row M x).length := by rw [hrow.out]; exact hy2
          have hsum := hid (show cTo M a (pickL b T) (t + 1) = cTo M a (pickL b T) t + nth (row M x) y by
            rw [cTo, nth_pick hltt, hk1, hx1]
            show _ + cell M (Int.toNat (x : Int)) (nth b (Int.toNat (k : Int))).toNat = _
            rw [Int.toNat_natCast, Int.toNat_natCast, hy1, Int.toNat_natCast]; rfl)
          have hb1 := hct.out t (by omega)
          have hb2 := hd1.out.pos x y hx2 hy2
          have hb2' : 0 ≤ nth (row M x) y ∧ nth (row M x) y ≤ 99 := hb2
          clear hb2
          replace hk1 := hid hk1
          replace hx1 := hid hx1
          replace hy1 := hid hy1
          go_wp2_with (go_quiet (fail))
          go_roundw
          case rel => exact ⟨t + 1, by omega, by go_num, by rw [hsum.out], Ext.trans hy inferInstance⟩
          case measure => simp [intOf]; omega
        · have hfin := hid (show cTo M a (pickL b T) t = K by
            rw [← hsumK.out]
            congr 1
            have := hTl.out
            omega)
          rw [hfin.out]
          obtain ⟨hb1, hb2⟩ := mv_back hB.out
          have hback := hid (show mcR M b a = K by rw [mcR, if_pos hb1, hb2, hKm.out])
          replace hb1 := hid hb1
          clear hb2
          go_wp2_with fail
          with_reducible refine (implMove_any (w0 := w1) (w := wq) hm' hb' ha').mono ?_
          rw [hback.out, hb1.out]
          rintro e w8 ⟨rfl, e8⟩
          have x0_8 := e8.cell x0q
          have g8 : Ext w1 w8 := Ext.trans e1q e8
          clear x0q
          have hdec := hid (show (K == 0) = decide (a = b) by
            rw [hKm.out]
            have hz := mv_zero hB.out
            by_cases h : a = b
            · rw [decide_eq_true h, hz.2 h]; rfl
            · rw [decide_eq_false h]
              have : ¬ mvC M a b = 0 := fun h2 => h (hz.1 h2)
              simpa using this)
          obtain ⟨D, hD⟩ : ∃ q, q = decide (a = b) := ⟨_, rfl⟩
          rw [← hD] at hdec
          replace hD := hid hD
          have hdec' := hdec.out
          have hKK : (K != K) = false := by simp
          have hDD : (D != D) = false := by simp
          go_wp2_with fail
          with_reducible refine (rInts_any (w0 := w1) (w := w8) ha' hb').mono ?_
          rw [← hD.out]
          rintro e w9 ⟨rfl, e9⟩
          have x0_9 := e9.cell x0_8
          have g9 : Ext w1 w9 := Ext.trans g8 e9
          clear x0_8
          go_wp2_with fail
          with_reducible refine (implConfs_any (n := M.length) (k := a.length) hn16 ⟨hal1, hal3⟩ w9).mono ?_
          rintro e w10 ⟨cv, rfl, hP, e10⟩
          have x0_10 := e10.cell x0_9
          have g10 : Ext w1 w10 := Ext.trans g9 e10
          clear x0_9
          go_wp2_with fail
          with_reducible refine (specConfs_any (n := M.length) (k := a.length) hn16 ⟨hal1, hal3⟩ w10).mono ?_
          rintro e w11 ⟨cu, rfl, hP2, e11⟩
          have x0_11 := e11.cell x0_10
          have g11 : Ext w1 w11 := Ext.trans g10 e11
          have hP11 := hP.ext (w' := w11)
          clear x0_10
          have htri := hid (fun c (hc : c ∈ confs M.length a.length 0) => mv_tri hB.out hc)
          obtain ⟨P, hPd⟩ : ∃ q, q = confs M.length a.length 0 := ⟨_, rfl⟩
          rw [← hPd] at hP hP2 hP11 htri
          replace hPd := hid hPd
          obtain ⟨aP, cP, rfl, lP⟩ := hP.form
          obtain ⟨aP2, cP2, rfl, lP2⟩ := hP2.form
          go_wp2_with fail
          with_reducible refine (rTable_l (w0 := w11) (w := w11) hP11 hP2).mono ?_
          rintro e w12 ⟨rfl, e12⟩
          have x0_12 := e12.cell x0_11
          have g12 : Ext w1 w12 := Ext.trans g11 e12
          have hP12 := hP11.ext (w' := w12)
          clear x0_11 hP hP2 hP11
          go_wp2_with fail
          go_loopw [22] (fun i wr => ∃ t : Nat, t ≤ P.length ∧ i = .int .i64 t ∧ Ext w12 wr) (fun i _ => P.length - (intOf i).toNat)
          case atStart => exact ⟨0, by omega, rfl, Ext.refl _⟩
          case round =>
            obtain ⟨t2, ht2, rfl, hz⟩ := hrel
            obtain ⟨wz, rfl⟩ : ∃ y : World, y = wr := ⟨_, rfl⟩
            have e1z : Ext w1 wz := Ext.trans g12 hz
            by_cases hltz : t2 < P.length
            · obtain ⟨h1, h2, h3⟩ := htri.out _ (row_mem hltz)
              obtain ⟨bP, oP, dc, mc, hda, hcc, hic, _⟩ := hP12.at (w' := wz) hltz
              cases hda
              have hxc := hz.cell x0_12
              obtain ⟨cf, hcf⟩ : ∃ q, q = row P t2 := ⟨_, rfl⟩
              rw [← hcf] at hcc hic h1 h2 h3
              replace hcf := hid hcf
              have hk1 := hid (show mcR M a cf = mvC M a cf by rw [mcR, if_pos h1])
              have hk2 := hid (show mcR M cf b = mvC M cf b by rw [mcR, if_pos h2])
              have hi1 := mv_in h1
              have hi2 := mv_in h2
              rw [← hKm.out] at h3
              generalize hX : mvC M a cf = X at *
              generalize hY : mvC M cf b = Y at *
              replace hX := hid hX
              replace hY := hid hY
              replace h1 := hid h1
              replace h2 := hid h2
              have hicz := hic.ext (w' := wz)
              go_upto_region 29 with fail
              have ed : Ext wz (wz).drew := inferInstance
              refine wp_region_held_drew (S := fun w' => Ext wz w' ∧ w'.cell? ⟨p, 0, none⟩ = some (.slice fM M.length cM) ∧ w'.cell? ⟨bP, oP + t2, none⟩ = some (.slice dc cf.length mc)) (by kernel_rfl) ⟨ed, ed.cell hxc, ed.cell hcc⟩ (fun hHeld0 => ?_)
              refine wpAnyH_take (i := 0) (v := .agg #[.slice fM M.length cM]) rfl (by kernel_rfl) (by kernel_rfl) (by kernel_rfl) (fun _ _ _ h => h) (Or.inl ⟨by rfl, by intro wx hx; obtain ⟨_, _, _⟩ := hx; go_simp⟩) (by assumption) ?_
              try simp only [List.getElem_toArray, List.getElem_cons_zero, Act.put, List.setIfInBounds_toArray, List.set_cons_zero, List.set_cons_succ]
              refine wpAnyH_take (i := 1) (v := .slice da a.length ma) rfl (by kernel_rfl) (by kernel_rfl) (by kernel_rfl) (fun _ _ _ h => h) (Or.inl ⟨by rfl, by intro wx hx; go_simp⟩) (by assumption) ?_
              try simp only [List.getElem_toArray, List.getElem_cons_succ, List.getElem_cons_zero, Act.put, List.setIfInBounds_toArray, List.set_cons_zero, List.set_cons_succ]
              refine wpAnyH_take (i := 2) (v := .slice (some ⟨bP, oP, none⟩) P.length cP) rfl (by kernel_rfl) (by kernel_rfl) (by kernel_rfl) (fun _ _ _ h => h) (Or.inl ⟨by rfl, by intro wx hx; go_simp⟩) (by assumption) ?_
              try simp only [List.getElem_toArray, List.getElem_cons_succ, List.getElem_cons_zero, Act.put, List.setIfInBounds_toArray, List.set_cons_zero, List.set_cons_succ]
              refine wpAnyH_take (i := 3) (v := .int .i64 t2) rfl (by kernel_rfl) (by kernel_rfl) (by kernel_rfl) (fun _ _ _ h => h) (Or.inl ⟨by rfl, by intro wx hx; go_simp⟩) (by assumption) ?_
              try simp only [List.getElem_toArray, List.getElem_cons_succ, List.getElem_cons_zero, Act.put, List.setIfInBounds_toArray, List.set_cons_zero, List.set_cons_succ]
              refine wpAnyH_take (i := 4) (v := .pointer (some ⟨bP, oP + t2, none⟩)) rfl (by kernel_rfl) (by kernel_rfl) (by kernel_rfl) (fun _ _ _ h => h) (Or.inl ⟨by rfl, by intro wx hx; go_simp⟩) (by assumption) ?_
              try simp only [List.getElem_toArray, List.getElem_cons_succ, List.getElem_cons_zero, Act.put, List.setIfInBounds_toArray, List.set_cons_zero, List.set_cons_succ]
              refine wpAnyH_take (i := 5) (v := .slice dc cf.length mc) rfl (by kernel_rfl) (by kernel_rfl) (by kernel_rfl) (fun _ _ _ h => h) (Or.inl ⟨by rfl, by intro wx hx; obtain ⟨_, _, _⟩ := hx; go_simp⟩) (by assumption) ?_
              try simp only [List.getElem_toArray, List.getElem_cons_succ, List.getElem_cons_zero, Act.put, List.setIfInBounds_toArray, List.set_cons_zero, List.set_cons_succ]
              refine wpAnyH_ready (rs := [6]) (by kernel_rfl) (by simp) ?_
              refine AllReadyH.cons rfl (fun K hK => ?_) AllReadyH.nil
              go_simp
              go_at_call 18
              with_reducible refine (implMove_any (w0 := wz) (w := wz.drew) (hm'.ext (w' := wz)) (ha'.ext (w' := wz)) hicz).mono ?_
              rw [hk1.out, h1.out]
              rintro e w13 ⟨rfl, e13⟩
              go_wp2_with fail
              have er1 : Ext wz w13 := Ext.trans ed e13
              refine hK.out _ _ ⟨er1, er1.cell hxc, er1.cell hcc⟩ (fun hHeld1 => ?_)
              clear hK K hHeld0
              try simp only [List.getElem_toArray, List.getElem_cons_succ, List.getElem_cons_zero, Act.put, List.setIfInBounds_toArray, List.set_cons_zero, List.set_cons_succ]
              refine wpAnyH_take (i := 7) (v := .tuple #[.int .i64 X, .bool true]) rfl (by kernel_rfl) (by kernel_rfl) (by kernel_rfl) (fun _ _ _ h => h) (Or.inl ⟨by rfl, by intro wx hx; go_simp⟩) (by assumption) ?_
              try simp only [List.getElem_toArray, List.getElem_cons_succ, List.getElem_cons_zero, Act.put, List.setIfInBounds_toArray, List.set_cons_zero, List.set_cons_succ]
              refine wpAnyH_take (i := 8) (v := .int .i64 X) rfl (by kernel_rfl) (by kernel_rfl) (by kernel_rfl) (fun _ _ _ h => h) (Or.inl ⟨by rfl, by intro wx hx; go_simp⟩) (by assumption) ?_
              try simp only [List.getElem_toArray, List.getElem_cons_succ, List.getElem_cons_zero, Act.put, List.setIfInBounds_toArray, List.set_cons_zero, List.set_cons_succ]
              refine wpAnyH_take (i := 9) (v := .bool true) rfl (by kernel_rfl) (by kernel_rfl) (by kernel_rfl) (fun _ _ _ h => h) (Or.inl ⟨by rfl, by intro wx hx; go_simp⟩) (by assumption) ?_
              try simp only [List.getElem_toArray, List.getElem_cons_succ, List.getElem_cons_zero, Act.put, List.setIfInBounds_toArray, List.set_cons_zero, List.set_cons_succ]
              refine wpAnyH_take (i := 10) (v := .int .i64 X) rfl (by kernel_rfl) (by kernel_rfl) (by kernel_rfl) (fun _ _ _ h => h) (Or.inl ⟨by rfl, by intro wx hx; go_simp⟩) (by assumption) ?_
              try simp only [List.getElem_toArray, List.getElem_cons_succ, List.getElem_cons_zero, Act.put, List.setIfInBounds_toArray, List.set_cons_zero, List.set_cons_succ]
              refine wpAnyH_take (i := 11) (v := .bool true) rfl (by kernel_rfl) (by kernel_rfl) (by kernel_rfl) (fun _ _ _ h => h) (Or.inl ⟨by rfl, by intro wx hx; go_simp⟩) (by assumption) ?_
              try simp only [List.getElem_toArray, List.getElem_cons_succ, List.getElem_cons_zero, Act.put, List.setIfInBounds_toArray, List.set_cons_zero, List.set_cons_succ]
              refine wpAnyH_done (by kernel_rfl) ?_ _
              have hxc13 := er1.cell hxc
              have hcc13 := er1.cell hcc
              go_upto_region 30 with fail
              have ed : Ext wz (w13).drew := Ext.trans er1 inferInstance
              refine wp_region_held_drew (S := fun w' => Ext wz w' ∧ w'.cell? ⟨p, 0, none⟩ = some (.slice fM M.length cM) ∧ w'.cell? ⟨bP, oP + t2, none⟩ = some (.slice dc cf.length mc)) (by kernel_rfl) ⟨ed, ed.cell hxc, ed.cell hcc⟩ (fun hHeld0 => ?_)
              refine wpAnyH_take (i := 0) (v := .agg #[.slice fM M.length cM]) rfl (by kernel_rfl) (by kernel_rfl) (by kernel_rfl) (fun _ _ _ h => h) (Or.inl ⟨by rfl, by intro wx hx; obtain ⟨_, _, _⟩ := hx; go_simp⟩) (by assumption) ?_
              try simp only [List.getElem_toArray, List.getElem_cons_zero, Act.put, List.setIfInBounds_toArray, List.set_cons_zero, List.set_cons_succ]
              refine wpAnyH_take (i := 1) (v := .slice (some ⟨bP, oP, none⟩) P.length cP) rfl (by kernel_rfl) (by kernel_rfl) (by kernel_rfl) (fun _ _ _ h => h) (Or.inl ⟨by rfl, by intro wx hx; go_simp⟩) (by assumption) ?_
              try simp only [List.getElem_toArray, List.getElem_cons_succ, List.getElem_cons_zero, Act.put, List.setIfInBounds_toArray, List.set_cons_zero, List.set_cons_succ]
              refine wpAnyH_take (i := 2) (v := .int .i64 t2) rfl (by kernel_rfl) (by kernel_rfl) (by kernel_rfl) (fun _ _ _ h => h) (Or.inl ⟨by rfl, by intro wx hx; go_simp⟩) (by assumption) ?_
              try simp only [List.getElem_toArray, List.getElem_cons_succ, List.getElem_cons_zero, Act.put, List.setIfInBounds_toArray, List.set_cons_zero, List.set_cons_succ]
              refine wpAnyH_take (i := 3) (v := .pointer (some ⟨bP, oP + t2, none⟩)) rfl (by kernel_rfl) (by kernel_rfl) (by kernel_rfl) (fun _ _ _ h => h) (Or.inl ⟨by rfl, by intro wx hx; go_simp⟩) (by assumption) ?_
              try simp only [List.getElem_toArray, List.getElem_cons_succ, List.getElem_cons_zero, Act.put, List.setIfInBounds_toArray, List.set_cons_zero, List.set_cons_succ]
              refine wpAnyH_take (i := 4) (v := .slice dc cf.length mc) rfl (by kernel_rfl) (by kernel_rfl) (by kernel_rfl) (fun _ _ _ h => h) (Or.inl ⟨by rfl, by intro wx hx; obtain ⟨_, _, _⟩ := hx; go_simp⟩) (by assumption) ?_
              try simp only [List.getElem_toArray, List.getElem_cons_succ, List.getElem_cons_zero, Act.put, List.setIfInBounds_toArray, List.set_cons_zero, List.set_cons_succ]
              refine wpAnyH_take (i := 5) (v := .slice db b.length mb) rfl (by kernel_rfl) (by kernel_rfl) (by kernel_rfl) (fun _ _ _ h => h) (Or.inl ⟨by rfl, by intro wx hx; go_simp⟩) (by assumption) ?_
              try simp only [List.getElem_toArray, List.getElem_cons_succ, List.getElem_cons_zero, Act.put, List.setIfInBounds_toArray, List.set_cons_zero, List.set_cons_succ]
              refine wpAnyH_ready (rs := [6]) (by kernel_rfl) (by simp) ?_
              refine AllReadyH.cons rfl (fun K hK => ?_) AllReadyH.nil
              go_simp
              go_at_call 18
              with_reducible refine (implMove_any (w0 := wz) (w := w13.drew) (hm'.ext (w' := wz)) hicz (hb'.ext (w' := wz))).mono ?_
              rw [hk2.out, h2.out]
              rintro e w14 ⟨rfl, e14⟩
              have ez14 : Ext wz w14 := Ext.trans ed e14
              go_wp2_with fail
              refine hK.out _ _ ⟨ez14, ez14.cell hxc, ez14.cell hcc⟩ (fun hHeld1 => ?_)
              clear hK K hHeld0
              try simp only [List.getElem_toArray, List.getElem_cons_succ, List.getElem_cons_zero, Act.put, List.setIfInBounds_toArray, List.set_cons_zero, List.set_cons_succ]
              refine wpAnyH_take (i := 7) (v := .tuple #[.int .i64 Y, .bool true]) rfl (by kernel_rfl) (by kernel_rfl) (by kernel_rfl) (fun _ _ _ h => h) (Or.inl ⟨by rfl, by intro wx hx; go_simp⟩) (by assumption) ?_
              try simp only [List.getElem_toArray, List.getElem_cons_succ, List.getElem_cons_zero, Act.put, List.setIfInBounds_toArray, List.set_cons_zero, List.set_cons_succ]
              refine wpAnyH_take (i := 8) (v := .int .i64 Y) rfl (by kernel_rfl) (by kernel_rfl) (by kernel_rfl) (fun _ _ _ h => h) (Or.inl ⟨by rfl, by intro wx hx; go_simp⟩) (by assumption) ?_
              try simp only [List.getElem_toArray, List.getElem_cons_succ, List.getElem_cons_zero, Act.put, List.setIfInBounds_toArray, List.set_cons_zero, List.set_cons_succ]
              refine wpAnyH_take (i := 9) (v := .bool true) rfl (by kernel_rfl) (by kernel_rfl) (by kernel_rfl) (fun _ _ _ h => h) (Or.inl ⟨by rfl, by intro wx hx; go_simp⟩) (by assumption) ?_
              try simp only [List.getElem_toArray, List.getElem_cons_succ, List.getElem_cons_zero, Act.put, List.setIfInBounds_toArray, List.set_cons_zero, List.set_cons_succ]
              refine wpAnyH_take (i := 10) (v := .int .i64 Y) rfl (by kernel_rfl) (by kernel_rfl) (by kernel_rfl) (fun _ _ _ h => h) (Or.inl ⟨by rfl, by intro wx hx; go_simp⟩) (by assumption) ?_
              try simp only [List.getElem_toArray, List.getElem_cons_succ, List.getElem_cons_zero, Act.put, List.setIfInBounds_toArray, List.set_cons_zero, List.set_cons_succ]
              refine wpAnyH_take (i := 11) (v := .bool true) rfl (by kernel_rfl) (by kernel_rfl) (by kernel_rfl) (fun _ _ _ h => h) (Or.inl ⟨by rfl, by intro wx hx; go_simp⟩) (by assumption) ?_
              try simp only [List.getElem_toArray, List.getElem_cons_succ, List.getElem_cons_zero, Act.put, List.setIfInBounds_toArray, List.set_cons_zero, List.set_cons_succ]
              refine wpAnyH_done (by kernel_rfl) ?_ _
              go_wp2_with fail
              go_roundw
              case rel => exact ⟨t2 + 1, by omega, by go_num, Ext.trans hz ez14⟩
              case measure => simp [intOf]; omega
            · go_wp2_with fail
              go_ret
              exact ⟨rfl, Ext.trans e1 e1z⟩
end Go.Proofs.Ytmgcfnciejfpbaa

/- Several texts in one (merge.py). -/
namespace Go.Proofs.Ytmgcfnciejfpbaa
open Go.RowKit
/- An argument that came in, read as bytes. -/
open Go.ChangeShapes Go.WideShapes Go.ChangeAt Go.RowKit Go.Deep Go.Joins

theorem Try.cellsByte : Try.prog.cellsOf 5 = 1 := by kernel_rfl
theorem isBytes_of_trod {H : Type} {enc : TypeId × Value → H} {w : World} {fuel : Nat} {v : Value} {x : DataW H × List MemPlace} (h : DataW.trod enc Try.prog w 0 (fun _ => true) true fuel 37 [v] = some x) : ∃ n, IsBytes w v n := by
  rcases open_ints Try.underlying37 Try.underlying5 Try.cellsByte h with ⟨hcs, _⟩ | ⟨a, l, c, zs, hcs, _, hl, hm, hz, hx, hcell, hwz⟩
  · simp only [List.cons.injEq, and_true] at hcs
    subst hcs
    exact ⟨0, none, 0, rfl, fun j hj => by omega⟩
  · simp only [List.cons.injEq, and_true] at hcs
    subst hcs
    have hz' : zs.length = c := by simpa using hz
    refine ⟨l, some a, c, rfl, fun j hj => ?_⟩
    have hc := hcell j (by omega)
    obtain ⟨b, o, rfl⟩ := spot_of_cell (hcell 0 (by omega))
    rw [addr_add_nil] at hc
    have hmem : zs.getD j 0 ∈ zs := by
      rw [List.getD_eq_getElem?_getD, List.getElem?_eq_getElem (by omega)]
      exact List.getElem_mem _
    have hwf := hwz _ hmem
    refine ⟨b, o, zs.getD j 0, rfl, hc, ?_⟩
    simp [Lit.wf] at hwf
    have h1 : IntKind.u8.min = 0 := by decide
    have h2 : IntKind.u8.max = 255 := by decide
    rw [h1, h2] at hwf
    rw [List.getD_eq_getElem?_getD]
    omega

/- The given statement of 'laws.FnMoves', proved: for every input the law returns true, and each argument reads behind the call as it read before. -/
open Go.ChangeShapes Go.WideShapes Go.ChangeAt Go.RowKit

theorem closedFnMoves : lawFacts Try.prog 4 Try.f4 Rows.fnMovesSpec Rows.fnMovesRow = true := by kernel_rfl

set_option maxRecDepth 100000 in
theorem liftedFnMoves (os : Os) (started : os.Started) (H : Type) (enc : TypeId × Value → H) :
    ReturnsInHanded {} Try.checked os 4 .any (Rows.fnMovesSpec.pre6 enc Try.prog Try.f4 Rows.fnMovesRow.domain false) (Rows.fnMovesSpec.post enc Try.prog Try.f4 false true false false) := by
  refine returnsInHanded_of_change_sized (C := Try.checked) factOwn started (by kernel_rfl) Try.func4
    (ChangeSpec.witness6 (enc := enc) (C := Try.checked) false ⟨#[], #[.slice none 0 0], []⟩ 8 (by kernel_rfl) (by kernel_rfl) (by kernel_rfl) (by kernel_rfl)) ?_
  intro W base args ds gs before hval0 hW hcnd hsz0 _
  have hval : ∀ (j : Nat) t v, Try.f4.params[j]? = some t → args[j]? = some v → Value.okWide Try.prog W .any base t v := hval0
  have hsz : (DataW.weightsEach Try.prog (Try.f4.params.toList ++ Rows.fnMovesSpec.plain.varTypes Try.prog) (ds ++ gs)).all (· ≤ reachBytes) = true := hsz0
  have hW' := hW
  obtain ⟨p, q, hA0, hV, rfl, hfz, hnd⟩ := hW
  have hA : DataW.TrodAll enc Try.prog W 0 (fun _ => true) true Try.f4.params.toList args.toList ds p := hA0
  rw [Try.params4] at hA hval hsz
  obtain ⟨v0, vs0, d0, ds0, p0, q0, hargs, rfl, rfl, h0, r0⟩ := trodAll_cons hA
  obtain ⟨rfl, rfl, rfl⟩ := trodAll_nil r0
  obtain rfl : args = #[v0] := by cases args; simp_all
  obtain ⟨rfl, rfl⟩ := trodVars_none hV
  have k0 := h0
  have lt0 : ∀ x ∈ p0, x.block < W.heap.size := by obtain ⟨m, hm⟩ := k0; exact DataW.trod_lt m _ _ _ hm
  have hw0 := weights_of hsz (j := 0) (t := 37) (d := d0) rfl rfl
  obtain ⟨a, l, c, rfl⟩ := okWide_slice Try.underlying37 (hval 0 37 v0 rfl rfl)
  obtain ⟨x0, a0⟩ : ∃ x, IsBytes W (.slice a l c) x := by
    obtain ⟨fuel, hf⟩ := h0
    exact isBytes_of_trod hf
  clear hA0 hval0 hsz0
  refine (lawFnMoves_any a0).mono fun e W' ⟨he, hext⟩ => ?_
  subst he
  have bel := hext.below
  exact ⟨_, rfl, _, _, _, [], _, [], hW', trodAll_mk1 (shut_bool Try.underlying4 _), (trodAll_cons_mk (Below.trod factLaid (by kernel_rfl) (of_decide_eq_true (by kernel_rfl)) k0 bel lt0) trodAll_mk0), rfl, bel.frame _, fun h => by cases h⟩

theorem holdsFnMoves : Rows.FnMovesSaid :=
  OpenClaim.holds_of_wide 4 Try.f4 rfl rfl rfl rfl rfl rfl rfl ⟨rfl, rfl, rfl, rfl, rfl⟩ rfl rfl rfl rfl rfl (by kernel_rfl) Try.func4 (joined_here closedFnMoves)
    (of_decide_eq_true (by kernel_rfl)) (by unfold Func.isWrapper; first | (rw [if_pos (by decide +kernel)]; kernel_rfl) | (rw [if_neg (by decide +kernel)]; exact ⟨rfl, rfl⟩))
    (fun os started H enc _ => liftedFnMoves os started H enc)

#print axioms holdsFnMoves

end Go.Proofs.Ytmgcfnciejfpbaa

