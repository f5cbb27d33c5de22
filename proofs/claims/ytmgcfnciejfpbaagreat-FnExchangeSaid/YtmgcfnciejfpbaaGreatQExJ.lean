/- The first break of the exchanges, the program's. -/
import Derived.Test.YtmgcfnciejfpbaaGreatQExI
namespace Go.Proofs.YtmgcfnciejfpbaaGreat
open Go.RowKit

set_option maxHeartbeats 3200000 in
set_option maxRecDepth 100000 in
theorem implExb_any {v vw : Value} {M : List (List Int)} {ws : List Int} {k : Int} {w0 w : World} [Ext w0 w] (hm : IsMet w0 v M) (_hk : I64 k) (hw : IsInts w0 vw ws) :
    Calls Tryz.prog 54 #[v, .int .i64 k, vw] w fun e w' => ∃ d0 m0 d1 m1, e = .returned (.tuple #[.slice d0 (exbX M k ws).length m0, .slice d1 (exbY M k ws).length m1, .int .i64 (exbP M k ws), .bool (exbB M k ws)]) ∧ Own w' w.heap.size ([intRowOf 3 (.slice d0 (exbX M k ws).length m0) (exbX M k ws)] ++ [intRowOf 3 (.slice d1 (exbY M k ws).length m1) (exbY M k ws)]) ∧ Ext w w' := by
  have hm' := hm
  obtain ⟨v1, rfl, hR⟩ := hm
  obtain ⟨a1, c1, rfl, l1⟩ := hR.form
  have hw' := hw
  obtain ⟨dw, mw, rfl, lw⟩ := hw.form
  have hcond : (metB M && (inB k 1 3 && workB M (confs M.length k.toNat 0) ws)) = (askB M k && workB M (confs M.length k.toNat 0) ws) := by rw [askB, Bool.and_assoc]
  cases hG : (askB M k && workB M (confs M.length k.toNat 0) ws) with
  | false =>
    have hr := hid (exb_none (show exbO M k ws = none by rw [exbO, hcond, hG]; rfl))
    clear hcond
    replace hG := hid hG
    go_enter Tryz.func54, Tryz.ntmps54
    go_wp2_with fail
    with_reducible refine (worksFor_any (w0 := w0) hm' hw').mono ?_
    rw [hG.out]
    rintro e w1 ⟨u, rfl, _, e1⟩
    go_wp2_with fail
    (try simp only [Exit.inBlock, Exit.then]); refine bodyPost_ret (results_tmp4 rfl _ _ _) rfl ?_
    rw [hr.out.1, hr.out.2.1, hr.out.2.2.1, hr.out.2.2.2]
    exact ⟨_, _, _, _, rfl, ((Own.nil _ _).cons_nil _ _).cons_nil _ _, Ext.trans inferInstance e1⟩
  | true =>
    have hG2 := hG
    rw [Bool.and_eq_true] at hG2
    obtain ⟨hM, hk⟩ := askB_iff.1 hG2.1
    have hwb := hG2.2
    clear hG2
    obtain ⟨kn, rfl⟩ := Int.eq_ofNat_of_zero_le (show 0 ≤ k by omega)
    rw [Int.toNat_natCast] at hwb
    have hkn : kn ≤ 3 := by omega
    have hg := hid (work_good hwb)
    have hO := hid (show exbO M kn ws = exR (confs M.length kn 0) ws kn by rw [exbO, hcond, hG, Int.toNat_natCast]; rfl)
    have hexs := hid (fun (i j s : Nat) => @exb_some M kn ws i j s)
    have hexn := hid (@exb_none M kn ws)
    rw [Int.toNat_natCast] at hexs hG
    clear hcond
    have hMl := met_len hM
    have h216 := confs_216 hMl.2 hkn
    have hPm := hid (show ∀ i, i < (confs M.length kn 0).length → (row (confs M.length kn 0) i).length = kn ∧ ∀ z ∈ row (confs M.length kn 0) i, I64 z from fun i hi => by
      obtain ⟨h1, h2, _⟩ := row_conf hi
      exact ⟨h1, pts_i64 h2 (by omega)⟩)
    have hlwc := hid hg.out.1.1
    have hwbc := hid (show ∀ j, j < (confs M.length kn 0).length → 0 ≤ nth ws j ∧ nth ws j ≤ 1000000 from fun j hj => by have := hg.out.2 j hj; omega)
    clear hM hwb
    replace hG := hid hG
    go_enter Tryz.func54, Tryz.ntmps54
    go_wp2_with fail
    with_reducible refine (worksFor_any (w0 := w0) hm' hw').mono ?_
    rw [Int.toNat_natCast, hG.out]
    rintro e wP ⟨u, rfl, hW, e1⟩
    replace hW := hW rfl
    have hW' := hW
    obtain ⟨bw, mv, pv, cv, rfl, _, h1, _, _, hP, _⟩ := hW
    have ePw : Ext w wP := Ext.trans inferInstance e1
    have e0P : Ext w0 wP := Ext.trans ‹Ext w0 w› ePw
    clear e1
    have hwP := hw'.ext (w' := wP)
    obtain ⟨P, hPd⟩ : ∃ p, p = confs M.length kn 0 := ⟨_, rfl⟩
    have hexc := hid (fun (U : World) (e : Ext wP U) (i j s : Nat) (hi : i < (confs M.length kn 0).length) (hj : j < (confs M.length kn 0).length) (hs : s < kn) => exchanges_any (w0 := wP) (w := U) hW' hwP hMl.2 hkn hi hj hs hlwc.out hwbc.out)
    rw [← hPd] at hP hPm h216 hO hexs hexc
    have hhit := hid (fun (i j s : Nat) => @exR_hit P ws kn i j s)
    have hmiss := hid (@exR_miss P ws kn)
    replace hPd := hid hPd
    obtain ⟨aP, cP, rfl, lP⟩ := hP.form
    go_wp2_with fail
    go_loopw [32] (fun i wr => ∃ q : Nat, q ≤ P.length ∧ i = .int .i64 q ∧ Hid (∀ z, z < q → exS1 P ws kn z = none) ∧ Ext wP wr) (fun i _ => P.length - (intOf i).toNat)
    case atStart => exact ⟨0, by omega, rfl, fun z hz => by omega, Ext.refl _⟩
    case round =>
      obtain ⟨i, hi, rfl, hno1, hx1⟩ := hrel
      obtain ⟨wo, rfl⟩ : ∃ z : World, z = wr := ⟨_, rfl⟩
      by_cases hlti : i < P.length
      · obtain ⟨bP, oP, d1, m1, hdP, hc1, hi1, _⟩ := hP.at (w' := wo) hlti
        cases hdP
        have hxl := hPm.out i hlti
        have y1 := hx1.cell h1
        have hxl2 := hid hxl.2
        have hxk := hid hxl.1
        clear hxl
        obtain ⟨a, had⟩ : ∃ z, z = row P i := ⟨_, rfl⟩
        rw [← had] at hc1 hi1 hxl2 hxk
        replace had := hid had
        have hak3 : a.length ≤ 3 := by rw [hxk.out]; exact hkn
        go_wp2_with fail
        go_loopw [42] (fun i' wr => ∃ q : Nat, q ≤ P.length ∧ i' = .int .i64 q ∧ Hid (∀ z, z < q → exS2 P ws kn i z = none) ∧ Ext wP wr) (fun i' _ => P.length - (intOf i').toNat)
        case atStart => exact ⟨0, by omega, rfl, fun z hz => by omega, hx1⟩
        case round =>
          obtain ⟨j, hj, rfl, hno2, hx2⟩ := hrel
          obtain ⟨wp, rfl⟩ : ∃ z : World, z = wr := ⟨_, rfl⟩
          by_cases hltj : j < P.length
          · obtain ⟨bP2, oP2, d2, m2, hdP2, hc2, hi2, _⟩ := hP.at (w' := wp) hltj
            cases hdP2
            have hyl := hPm.out j hltj
            have hyl2 := hid hyl.2
            have hyk := hid hyl.1
            clear hyl
            obtain ⟨b, hbd⟩ : ∃ z, z = row P j := ⟨_, rfl⟩
            rw [← hbd] at hc2 hi2 hyl2 hyk
            replace hbd := hid hbd
            have hbk3 : b.length ≤ 3 := by rw [hyk.out]; exact hkn
            go_wp2_with fail
            go_loopw [49] (fun i' wr => ∃ q : Nat, q ≤ a.length ∧ i' = .int .i64 q ∧ Hid (∀ z, z < q → exS3 P ws i j z = none) ∧ Ext wP wr) (fun i' _ => a.length - (intOf i').toNat)
            case atStart => exact ⟨0, by omega, rfl, fun z hz => by omega, hx2⟩
            case round =>
              obtain ⟨s, hs, rfl, hno3, hx3⟩ := hrel
              obtain ⟨wq, rfl⟩ : ∃ z : World, z = wr := ⟨_, rfl⟩
              by_cases hlts : s < a.length
              · have hsk : s < kn := by rw [← hxk.out]; exact hlts
                have e0q : Ext w0 wq := Ext.trans e0P hx3
                obtain ⟨bx1, ox1, hdx, hcs⟩ := hi1.at (w' := wq) hlts
                cases hdx
                have hcall := hexc.out wq hx3 i j s hlti hltj hsk
                cases hok0 : exOk P ws (row P i) (row P j) s with
                | true =>
                  rw [hok0, ← had.out] at hcall
                  have hno4 := hid (show ∀ z, z < s + 1 → exS3 P ws i j z = none from fun z hz => by
                    by_cases e : z = s
                    · rw [e]; exact exS3_ok hok0
                    · exact hno3.out z (by omega))
                  clear hok0
                  generalize nth a s = p at *
                  replace hcall := hid hcall
                  go_wp2_with fail
                  with_reducible refine hcall.out.mono ?_
                  rintro e w5 ⟨rfl, e5⟩
                  go_wp2_with fail
                  go_roundw
                  case rel => exact ⟨s + 1, by omega, by go_num, hno4.out, Ext.trans hx3 e5⟩
                  case measure => simp [intOf]; omega
                | false =>
                  rw [hok0, ← had.out] at hcall
                  have hfin := hid (hexs.out i j s (by rw [hO.out]; exact hhit.out i j s hno1.out hno2.out hno3.out hlti hltj hsk hok0))
                  clear hok0
                  rw [← had.out, ← hbd.out] at hfin
                  generalize nth a s = p at *
                  replace hcall := hid hcall
                  go_wp2_with fail
                  with_reducible refine hcall.out.mono ?_
                  rintro e w5 ⟨rfl, e5⟩
                  have ePw5 : Ext wP w5 := Ext.trans hx3 e5
                  have hA5 := hi1.ext (w' := w5) (e := ePw5)
                  have hB5 := hi2.ext (w' := w5) (e := ePw5)
                  go_wp2_with fail
                  with_reducible refine (cloneInts_any (w0 := w5) (w := w5) hA5).mono ?_
                  rintro e w6 ⟨d6, m6, rfl, own6, e6⟩
                  have hB6 := hB5.ext (w' := w6)
                  go_wp2_with fail
                  with_reducible refine (cloneInts_any (w0 := w6) (w := w6) hB6).mono ?_
                  rintro e w7 ⟨d7, m7, rfl, own7, e7⟩
                  have own := (Own.join own6 own7 (hB := e6.size)).swap
                  go_wp2_with fail
                  (try simp only [Exit.inBlock, Exit.then]); refine bodyPost_ret (results_tmp4 rfl _ _ _) rfl ?_
                  rw [hfin.out.1, hfin.out.2.1, hfin.out.2.2.1, hfin.out.2.2.2]
                  exact ⟨_, _, _, _, rfl, own.mono (Nat.le_trans ePw.size ePw5.size), Ext.trans ePw (Ext.trans ePw5 (Ext.trans e6 e7))⟩
              · have hsk : s = kn := by rw [← hxk.out]; omega
                have hno4 := hid (show ∀ z, z < j + 1 → exS2 P ws kn i z = none from fun z hz => by
                  by_cases e : z = j
                  · rw [e]; exact fst_none fun q hq => hno3.out q (by omega)
                  · exact hno2.out z (by omega))
                replace hsk := hid hsk
                go_wp2_with fail
                go_roundw
                case rel => exact ⟨j + 1, by omega, by go_num, hno4.out, hx3⟩
                case measure => simp [intOf]; omega
          · have hjn : j = P.length := by omega
            have hno4 := hid (show ∀ z, z < i + 1 → exS1 P ws kn z = none from fun z hz => by
              by_cases e : z = i
              · rw [e]; exact fst_none fun q hq => hno2.out q (by omega)
              · exact hno1.out z (by omega))
            replace hjn := hid hjn
            go_wp2_with fail
            go_roundw
            case rel => exact ⟨i + 1, by omega, by go_num, hno4.out, hx2⟩
            case measure => simp [intOf]; omega
      · have hfin := hid (hexn.out (by rw [hO.out]; exact hmiss.out fun q hq => hno1.out q (by omega)))
        go_wp2_with fail
        (try simp only [Exit.inBlock, Exit.then]); refine bodyPost_ret (results_tmp4 rfl _ _ _) rfl ?_
        rw [hfin.out.1, hfin.out.2.1, hfin.out.2.2.1, hfin.out.2.2.2]
        exact ⟨_, _, _, _, rfl, ((Own.nil _ _).cons_nil _ _).cons_nil _ _, Ext.trans ePw hx1⟩
end Go.Proofs.YtmgcfnciejfpbaaGreat
