/- 'laws.FnOffsets': for every code the law returns true. -/
import Derived.Test.YtkdbgobhgnjoaabDraw8
import Derived.Test.YtkdbgobhgnjoaabRlaw
import Derived.Test.YtkdbgobhgnjoaabOffQ
import Derived.Test.YtkdbgobhgnjoaabOffsX
namespace Go.Proofs.Ytkdbgobhgnjoaab
open Go.RowKit

theorem Own.rowsLike {w : World} {B e1 e2 : Nat} {v u : Value} {vs : List Value} {M : List (List Int)} {R : List Row} (h : Own w B (rowsOf e1 e2 v vs M ++ R)) (hl : vs.length = M.length) (k : IsRows w u M) : IsRows w v M := by
  have ha := k.all
  exact Own.readsAll h hl ha.1 ha.2.1 ha.2.2
theorem IsRows.at' {w : World} {a : Option Addr} {n c : Nat} {xss : List (List Int)} (h : IsRows w (.slice a n c) xss) {w' : World} [e : Ext w w'] {k : Nat} (hk : k < xss.length) :
    ∃ b o d m, a = some ⟨b, o, none⟩ ∧ w'.cell? ⟨b, o + k, none⟩ = some (.slice d (row xss k).length m) ∧ IsInts w (.slice d (row xss k).length m) (row xss k) ∧ (row xss k).length ≤ 17592186044415 := h.at hk
theorem Own.intsLike {w : World} {B e : Nat} {v u : Value} {xs : List Int} {R : List Row} (h : Own w B (intRowOf e v xs :: R)) (k : IsInts w u xs) : IsInts w v xs := by
  obtain ⟨a, c, _, h2, h3, _⟩ := k
  exact h.reads h2.1 h3

set_option maxHeartbeats 6400000 in
set_option maxRecDepth 100000 in
theorem lawFnOffsets_any {v : Value} {nb : Nat} {w : World} (hc : IsBytes w v nb) :
    Calls Try.prog 4 #[v] w fun e w' => e = .returned (.bool true) ∧ Ext w w' := by
  have hc' := hc
  obtain ⟨ac, cc, rfl⟩ := hc.form
  by_cases hbig : 65536 < nb
  · have hd := hid (decide_eq_true hbig)
    go_enter Try.func4, Try.ntmps4
    go_wp2_with fail
    refine (rBig_any hc').mono ?_
    rw [hd.out]
    rintro e w1 ⟨rfl, rfl⟩
    go_wp2_with fail
    go_ret
    exact ⟨rfl, Ext.refl _⟩
  · have hd := hid (decide_eq_false hbig)
    go_enter Try.func4, Try.ntmps4
    go_wp2_with fail
    refine (rBig_any hc').mono ?_
    rw [hd.out]
    rintro e w1 ⟨rfl, rfl⟩
    go_wp2_with fail
    refine (drawLC_any (w0 := w) (w := w) hc').mono ?_
    rintro e w1 ⟨pv, s, rv, M, S, X, rfl, hp, hs, hX, hXl, e1⟩
    have hp' := hp
    obtain ⟨mv, sv, rfl, hM, hS⟩ := hp
    obtain ⟨a1, c1, rfl, l1⟩ := hM.form
    obtain ⟨a2, c2, rfl, l2⟩ := hS.form
    have hX' := hX
    obtain ⟨aX, cX, rfl, lX⟩ := hX.form
    go_upto_region 4 with fail
    have eW : Ext w1 (w1.alloc (.cells #[.slice a1 M.length c1, .slice a2 S.length c2] 26)) := inferInstance
    have x0 : (w1.alloc (.cells #[.slice a1 M.length c1, .slice a2 S.length c2] 26)).cell? ⟨w1.heap.size, 0, none⟩ = some (.slice a1 M.length c1) := by go_simp
    have x1 : (w1.alloc (.cells #[.slice a1 M.length c1, .slice a2 S.length c2] 26)).cell? ⟨w1.heap.size, 1, none⟩ = some (.slice a2 S.length c2) := by go_simp
    obtain ⟨pb, hpb⟩ : ∃ r, r = w1.heap.size := ⟨_, rfl⟩
    generalize w1.alloc (.cells #[.slice a1 M.length c1, .slice a2 S.length c2] 26) = W at *
    rw [← hpb] at x0 x1 ⊢
    replace hpb := hid hpb
    have e01 : Ext w W := Ext.trans e1 eW
    go_wp2_with fail
    refine (implOffOf_any (w0 := w1) (w := W) hp' hs).mono ?_
    rintro e w2 ⟨d2, m2, vs2, rfl, hv2, own2, e2⟩
    have e12 : Ext w1 w2 := Ext.trans eW e2
    have x02 := e2.cell x0
    have x12 := e2.cell x1
    go_wp2_with fail
    refine (specOffOf_any (w0 := w1) (w := w2) hp' hs).mono ?_
    rintro e w3 ⟨d3, m3, rfl, hr3, e3⟩
    have e13 : Ext w1 w3 := Ext.trans e12 e3
    have x03 := e3.cell x02
    have x13 := e3.cell x12
    have own23 := own2.ext (w' := w3)
    have hl2 : IsRows w3 (.slice d2 (offsL M S s).length m2) (offsL M S s) := own23.nilr.rowsLike hv2 hr3
    clear own2 own23
    obtain ⟨ob, hob⟩ : ∃ b, b = offB M S s := ⟨_, rfl⟩
    rw [← hob]
    replace hob := hid hob
    go_wp2_with fail
    refine (rTable_eq (w0 := w3) (w := w3) hl2 hr3).mono ?_
    rintro e w4 ⟨rfl, e4⟩
    have e14 : Ext w1 w4 := Ext.trans e13 e4
    have x04 := e4.cell x03
    have x14 := e4.cell x13
    go_wp2_with fail
    refine (implOffSteps_any (w0 := w1) (w := w4) hp' hs).mono ?_
    rw [← hob.out]
    rintro e w5 ⟨d5, m5, vs5, d6, m6, vs6, rfl, hv5, hv6, own5, e5⟩
    have e15 : Ext w1 w5 := Ext.trans e14 e5
    have x05 := e5.cell x04
    have x15 := e5.cell x14
    go_wp2_with fail
    refine (specOffSteps_any (w0 := w1) (w := w5) hp' hs).mono ?_
    rw [← hob.out]
    rintro e w6 ⟨d7, m7, d8, m8, rfl, hr7, hr8, e6⟩
    have e16 : Ext w1 w6 := Ext.trans e15 e6
    have x06 := e6.cell x05
    have x16 := e6.cell x15
    have own56 := own5.ext (w' := w6)
    have hl5 : IsRows w6 (.slice d5 (stepsL M S s).length m5) (stepsL M S s) := Own.rowsLike own56 hv5 hr7
    have hl6 : IsRows w6 (.slice d6 (growsL M S s).length m6) (growsL M S s) := Own.rowsLike (R := []) (by rw [List.append_nil]; exact own56.right) hv6 hr8
    clear own5 own56
    go_wp2_with fail
    refine (rTable_eq (w0 := w6) (w := w6) hl5 hr7).mono ?_
    rintro e w7 ⟨rfl, e7⟩
    have e17 : Ext w1 w7 := Ext.trans e16 e7
    have x07 := e7.cell x06
    have x17 := e7.cell x16
    go_wp2_with fail
    refine (rTable_eq (w0 := w6) (w := w7) hl6 hr8).mono ?_
    rintro e w8 ⟨rfl, e8⟩
    have e18 : Ext w1 w8 := Ext.trans e17 e8
    have x08 := e8.cell x07
    have x18 := e8.cell x17
    go_wp2_with fail
    refine (rLeast_any (w0 := w1) (w := w8) hp' hs hX').mono ?_
    rintro e w9 ⟨rfl, e9⟩
    have e19 : Ext w1 w9 := Ext.trans e18 e9
    have x09 := e9.cell x08
    have x19 := e9.cell x18
    go_wp2_with fail
    refine (implWF_any (w0 := w1) (w := w9) hp' hs hX').mono ?_
    rintro e w10 ⟨d10, m10, rfl, own10, e10⟩
    have e110 : Ext w1 w10 := Ext.trans e19 e10
    have x010 := e10.cell x09
    have x110 := e10.cell x19
    obtain ⟨tb, htb⟩ : ∃ b, b = startB M S s X := ⟨_, rfl⟩
    rw [← htb]
    replace htb := hid htb
    go_wp2_with fail
    refine (specWF_any (w0 := w1) (w := w10) hp' hs hX').mono ?_
    rw [← htb.out]
    rintro e w11 ⟨d11, m11, rfl, hr11, e11⟩
    have e111 : Ext w1 w11 := Ext.trans e110 e11
    have hl10 : IsInts w11 (.slice d10 (wfR M S s X).length m10) (wfR M S s X) := (own10.ext (w' := w11)).intsLike hr11
    clear own10
    go_wp2_with fail
    refine (rInts_eq (w0 := w11) (w := w11) hl10 hr11).mono ?_
    rintro e w12 ⟨rfl, e12'⟩
    have eF : Ext w w12 := Ext.trans e1 (Ext.trans e111 e12')
    cases tb with
    | false =>
      cases ob with
      | false =>
        go_wp2_with fail
        go_ret
        exact ⟨rfl, eF⟩
      | true =>
        go_wp2_with fail
        go_ret
        exact ⟨rfl, eF⟩
    | true =>
      cases ob with
      | false =>
        go_wp2_with fail
        go_ret
        exact ⟨rfl, eF⟩
      | true =>
        have hstart := hid htb.out.symm
        obtain ⟨h0, n, hn⟩ := offB_end hob.out.symm
        have hOL := offsL_some h0 hn
        have hOS := stepsL_some h0 hn
        have hOG := growsL_some h0 hn
        have hlen := offEnd_len hn
        have hSl : (offStp M S s.toNat n).length = n := offStp_length _ _ _ _
        have hGl : (offGrw M S s.toNat n).length = n := offGrw_length _ _ _ _
        obtain ⟨hn4, _, hoff⟩ := offEnd_some h0 hn
        have hprob := hid (startB_prob h0)
        have hWR := wfR_true hstart.out
        have hxl := startB_len hstart.out
        rw [hOL] at hl2
        rw [hOS] at hl5
        rw [hOG] at hl6
        have hst0 := startB_state h0
        have hrS := hid (show ∀ i, i < n → (row (offStp M S s.toNat n) i).length = S.length from fun i hi => by rw [row_offStp hi, rowStp_length])
        have hrG := hid (show ∀ i, i < n → (row (offGrw M S s.toNat n) i).length = S.length from fun i hi => by rw [row_offGrw hi, rowGrw_length])
        have hrL := hid (show ∀ i, i < n → (row (offLst M S s.toNat n) i).length = M.length from fun i hi => (hoff _ (row_mem (by omega))).1)
        have hwork := hid (fun k (hk : k ≤ X.length) => off_work hstart.out hn (k := k) hk)
        have hleast := hid (off_least hstart.out hn)
        have hreq := hid (fun k (hk : k < X.length) => startB_req hstart.out hk)
        have hwok := work_ok hstart.out (k := X.length) (Nat.le_refl _)
        have hwl := hid (show (wfR M S s X).length = M.length by rw [hWR]; exact hwok.1)
        have hwb := hid (show ∀ t, t < M.length → nth (wfR M S s X) t = nth (workTo M S (row M s.toNat) X X.length) t from fun t _ => by rw [hWR]; rfl)
        have hp4 := probB_len hprob.out
        have e612 : Ext w6 w12 := Ext.trans (Ext.trans e7 e8) (Ext.trans e9 (Ext.trans e10 (Ext.trans e11 e12')))
        have e312 : Ext w3 w12 := Ext.trans e4 (Ext.trans e5 (Ext.trans e6 e612))
        have e1112 : Ext w11 w12 := e12'
        have e112 : Ext w1 w12 := Ext.trans e111 e12'
        rw [hOL, hOS, hOG, hSl, hGl, hlen, hwl.out]
        rw [hwl.out] at hl10
        rw [hSl] at hl5
        rw [hGl] at hl6
        rw [hlen] at hl2
        clear hOL hOS hOG hr3 hr7 hr8 hr11 hWR hwok
        obtain ⟨T, hT⟩ : ∃ T, T = offStp M S s.toNat n := ⟨_, rfl⟩
        obtain ⟨G, hG⟩ : ∃ T, T = offGrw M S s.toNat n := ⟨_, rfl⟩
        obtain ⟨L, hL⟩ : ∃ T, T = offLst M S s.toNat n := ⟨_, rfl⟩
        rw [← hT, ← hG, ← hL] at hwork
        rw [← hT, ← hG] at hleast
        rw [← hT] at hl5 hSl hrS
        rw [← hG] at hl6 hGl hrG
        rw [← hL] at hl2 hrL hlen
        clear hT hG hL hoff
        replace hSl := hid hSl
        replace hGl := hid hGl
        replace hlen := hid hlen
        go_wp2
        go_loopw [22, 23, 24] (fun p q i wr => ∃ k : Nat, k ≤ X.length ∧ i = .int .i64 k ∧ p = .int .i64 (offAt T X k) ∧ q = .int .i64 (offSum T G X k) ∧ Drew w12 wr) (fun _ _ i _ => X.length - (intOf i).toNat)
        case atStart => exact ⟨0, by omega, rfl, rfl, rfl, Drew.refl _⟩
        case round =>
          obtain ⟨k, hk, rfl, rfl, rfl, hdr⟩ := hrel
          obtain ⟨⟨ha0, ha1⟩, ⟨hs0, hs1⟩, _, hww⟩ := hwork.out k hk
          obtain ⟨a, ha⟩ := Int.eq_ofNat_of_zero_le ha0
          have han : a < n := by omega
          obtain ⟨sm, hsm⟩ : ∃ z, z = offSum T G X k := ⟨_, rfl⟩
          rw [ha]
          rw [← hsm] at hs0 hs1 ⊢
          have e2r : Ext w12 wr := hdr.ext
          by_cases hlt : k < X.length
          · have hrq := hreq.out k hlt
            obtain ⟨r, hr⟩ := Int.eq_ofNat_of_zero_le hrq.1
            have hrS2 : r < S.length := by omega
            have hnx := hwork.out (k + 1) hlt
            have hsum1 : offSum T G X (k + 1) = sm + cell G a r := by
              show offSum T G X k + cell G (offAt T X k).toNat (nth X k).toNat = _
              rw [ha, hr, ← hsm]; rfl
            have hat1 : offAt T X (k + 1) = cell T a r := by
              show cell T (offAt T X k).toNat (nth X k).toNat = _
              rw [ha, hr]; rfl
            have hb1 : 0 ≤ sm + cell G a r ∧ sm + cell G a r ≤ 100000 := by
              have := hnx.2.1
              rw [hsum1] at this
              omega
            have e6r : Ext w6 wr := Ext.trans e612 e2r
            have e1r : Ext w1 wr := Ext.trans e112 e2r
            obtain ⟨bG, oG, dG, mG, hGa, hGc, hGi, _⟩ := hl6.at' (w' := wr) (k := a) (by rw [hGl.out]; exact han)
            obtain ⟨bT, oT, dT, mT, hTa, hTc, hTi, _⟩ := hl5.at' (w' := wr) (k := a) (by rw [hSl.out]; exact han)
            rw [hrG.out a han] at hGc hGi
            rw [hrS.out a han] at hTc hTi
            obtain ⟨bG2, oG2, hGa2, hGc2⟩ := hGi.at (w' := wr) (k := r) (by rw [hrG.out a han]; exact hrS2)
            obtain ⟨bT2, oT2, hTa2, hTc2⟩ := hTi.at (w' := wr) (k := r) (by rw [hrS.out a han]; exact hrS2)
            obtain ⟨b3, o3, h3a, hc3⟩ := hX.at (w' := wr) hlt
            rw [hr] at hc3
            have hGc3 : wr.cell? ⟨bG2, oG2 + r, none⟩ = some (.int .i64 (cell G a r)) := hGc2
            have hTc3 : wr.cell? ⟨bT2, oT2 + r, none⟩ = some (.int .i64 (cell T a r)) := hTc2
            subst hGa hTa hGa2 hTa2 h3a
            clear hGc2 hTc2
            obtain ⟨gv, hgv⟩ : ∃ z, z = cell G a r := ⟨_, rfl⟩
            obtain ⟨tv, htv⟩ : ∃ z, z = cell T a r := ⟨_, rfl⟩
            rw [← hgv] at hGc3 hb1 hsum1
            rw [← htv] at hTc3 hat1
            clear hgv htv
            have hsid := hid hsum1
            have haid := hid hat1
            replace hsm := hid hsm
            replace ha := hid ha
            replace hr := hid hr
            clear hsum1 hat1 hnx hww
            go_wp2_with (go_quiet (fail))
            go_roundw
            case rel => exact ⟨k + 1, by omega, by go_num, by rw [haid.out], by rw [hsid.out], hdr.step _⟩
            case measure => simp [intOf]; omega
          · have hkX : k = X.length := by omega
            have hsl : sm = lcR M S s X := by rw [hsm, hkX]; exact hleast.out
            have hwt := hid (show ∀ t, t < M.length → nth (wfR M S s X) t = nth (row L a) t + sm from fun t ht => by
              rw [hwb.out t ht, ← hkX, hww t ht, hsm, ha]; rfl)
            have hwbd := hid (show ∀ t, t < M.length → 0 ≤ nth (wfR M S s X) t ∧ nth (wfR M S s X) t ≤ 100000 from fun t ht => by
              have := (work_ok hstart.out (k := X.length) (Nat.le_refl _)).2 t ht
              rw [hwb.out t ht]
              omega)
            replace hkX := hid hkX
            replace hsm := hid hsm
            replace ha := hid ha
            replace hsl := hid hsl
            have e3r : Ext w3 wr := Ext.trans e312 e2r
            have e11r : Ext w11 wr := Ext.trans e1112 e2r
            obtain ⟨bL, oL, dL, mL, hLa, hLc, hLi, _⟩ := hl2.at' (w' := wr) (k := a) (by rw [hlen.out]; exact han)
            rw [hrL.out a han] at hLc hLi
            subst hLa
            obtain ⟨wz, hwz⟩ : ∃ y : World, y = wr := ⟨_, rfl⟩
            rw [← hwz] at hdr e2r e3r e11r hLc ⊢
            clear hwz
            go_wp2
            go_loopw [25] (fun i wr => ∃ t : Nat, t ≤ M.length ∧ i = .int .i64 t ∧ Drew wz wr) (fun i _ => M.length - (intOf i).toNat)
            case atStart => exact ⟨0, by omega, rfl, Drew.refl _⟩
            case round =>
              obtain ⟨t, ht, rfl, hdt⟩ := hrel
              have ezr : Ext wz wr := hdt.ext
              by_cases hltt : t < M.length
              · have e3r' : Ext w3 wr := Ext.trans e3r ezr
                have e11r' : Ext w11 wr := Ext.trans e11r ezr
                have hLc' := ezr.cell hLc
                obtain ⟨bL2, oL2, hL2a, hL2c⟩ := hLi.at (w' := wr) (k := t) (by rw [hrL.out a han]; exact hltt)
                obtain ⟨bW, oW, hWa, hWc⟩ := hl10.at (w' := wr) (k := t) (by rw [hwl.out]; exact hltt)
                have hv1 := hwt.out t hltt
                have hv2 := hwbd.out t hltt
                rw [hv1] at hWc hv2
                obtain ⟨lv, hlv⟩ : ∃ z, z = nth (row L a) t := ⟨_, rfl⟩
                rw [← hlv] at hL2c hWc hv2
                clear hlv hv1
                subst hL2a hWa
                go_wp2_with (go_quiet (fail))
                go_roundw
                case rel => exact ⟨t + 1, by omega, by go_num, hdt.step _⟩
                case measure => simp [intOf]; omega
              · rw [hsl.out]
                go_wp2
                go_ret
                exact ⟨rfl, Ext.trans eF (Ext.trans e2r ezr)⟩
end Go.Proofs.Ytkdbgobhgnjoaab
