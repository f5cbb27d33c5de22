/- Double coverage walked: the run of the reference. -/
import Derived.Test.YtohjbabjkjcddaaDcT
namespace Go.Proofs.Ytohjbabjkjcddaa
open Go.RowKit

set_option maxHeartbeats 1600000 in
set_option maxRecDepth 100000 in
theorem specCr_any {va vX : Value} {a X : List Int} {w0 w : World} [Ext w0 w] (ha : IsInts w0 va a) (hXi : IsInts w0 vX X) :
    Calls Try.prog 11 #[va, vX] w fun e w' => CrPost a X w e w' := by
  have ha' := ha
  have hX' := hXi
  obtain ⟨da, ca, rfl, la⟩ := ha.form
  obtain ⟨dX, cX, rfl, lX⟩ := hXi.form
  cases hB1 : rowB a with
  | false =>
    have hS := hid (show drB a X = false by rw [drB, hB1]; rfl)
    have hs := hid (show drS a X = 0 by rw [drS, hS.out]; rfl)
    have ht := hid (show drT a X = [] by rw [drT, hS.out]; rfl)
    go_enter Try.func11, Try.ntmps11
    go_upto_region 2 with fail
    have ew1 : Ext w (w.alloc (.cells #[] 24)) := inferInstance
    generalize w.alloc (.cells #[] 24) = wa at *
    have e0a : Ext w0 wa := Ext.trans ‹Ext w0 w› ew1
    go_wp2_with fail
    refine (l6Row_any (w0 := w0) ha').mono ?_
    rw [hB1]
    rintro e wb ⟨rfl, e1⟩
    go_wp2_with fail
    go_ret3
    rw [CrPost, hS.out, hs.out, ht.out]
    exact ⟨_, rfl, rows_nil0 _ _ _, Ext.trans ew1 e1⟩
  | true =>
    by_cases hl60 : X.length ≤ 60
    rotate_left
    · have hl60' : (60 : Int) < (X.length : Int) := by omega
      have hS := hid (show drB a X = false by rw [drB, hB1, plcB, decide_eq_false (by omega)]; rfl)
      have hs := hid (show drS a X = 0 by rw [drS, hS.out]; rfl)
      have ht := hid (show drT a X = [] by rw [drT, hS.out]; rfl)
      go_enter Try.func11, Try.ntmps11
      go_upto_region 2 with fail
      have ew1 : Ext w (w.alloc (.cells #[] 24)) := inferInstance
      generalize w.alloc (.cells #[] 24) = wa at *
      have e0a : Ext w0 wa := Ext.trans ‹Ext w0 w› ew1
      go_wp2_with fail
      refine (l6Row_any (w0 := w0) ha').mono ?_
      rw [hB1]
      rintro e wb ⟨rfl, e1⟩
      go_wp2_with fail
      go_ret3
      rw [CrPost, hS.out, hs.out, ht.out]
      exact ⟨_, rfl, rows_nil0 _ _ _, Ext.trans ew1 e1⟩
    · have hl60' : ¬ (60 : Int) < (X.length : Int) := by omega
      cases hB3 : belowB 100 X with
      | false =>
        have hS := hid (show drB a X = false by rw [drB, hB1, plcB, hB3, decide_eq_true (by omega)]; rfl)
        have hs := hid (show drS a X = 0 by rw [drS, hS.out]; rfl)
        have ht := hid (show drT a X = [] by rw [drT, hS.out]; rfl)
        go_enter Try.func11, Try.ntmps11
        go_upto_region 2 with fail
        have ew1 : Ext w (w.alloc (.cells #[] 24)) := inferInstance
        generalize w.alloc (.cells #[] 24) = wa at *
        have e0a : Ext w0 wa := Ext.trans ‹Ext w0 w› ew1
        go_wp2_with fail
        refine (l6Row_any (w0 := w0) ha').mono ?_
        rw [hB1]
        rintro e wb ⟨rfl, e1⟩
        have e0b : Ext w0 wb := Ext.trans e0a e1
        go_wp2_with fail
        refine (l6Places_any (w0 := w0) hX').mono ?_
        rw [hB3]
        rintro e wc ⟨rfl, e2⟩
        go_wp2_with fail
        go_ret3
        rw [CrPost, hS.out, hs.out, ht.out]
        exact ⟨_, rfl, rows_nil0 _ _ _, Ext.trans ew1 (Ext.trans e1 e2)⟩
      | true =>
        have hS := hid (show drB a X = true by rw [drB, hB1, plcB, hB3, decide_eq_true (by omega)]; rfl)
        obtain ⟨_, hXl, hXb⟩ := drB_iff hS.out
        have hall := hid (dcA_ok (a := a) (X := X) hB1 hXb)
        have hsum := hid (dcS_in (a := a) (X := X) hB1 hXb)
        have hrow := (rowB_iff.1 hB1).1
        have hB1' := hid hB1
        have hXb' := hid hXb
        obtain ⟨B, hB⟩ : ∃ b, b = w.heap.size := ⟨_, rfl⟩
        have tab0 : Tab (w.alloc (.cells #[] 24)) B (.slice (some ⟨w.heap.size, 0, none⟩) 0 0) [] [] := Tab.start (Own.nil _ _) (by rw [hB]; exact Nat.le_refl _)
        have b0 : Below B w (w.alloc (.cells #[] 24)) := by rw [hB]; exact (Below.refl _ _).alloc (Nat.le_refl _) _
        have hEx := hid (show ∀ u, Below B w u → Ext w u from fun u h => ⟨by rw [← hB]; exact h⟩)
        have hBl := hid (show ∀ u, Ext w u → B ≤ u.heap.size from fun u e => by rw [hB]; exact e.size)
        go_enter Try.func11, Try.ntmps11
        go_upto_region 2 with fail
        replace hB := hid hB
        have ew1 : Ext w (w.alloc (.cells #[] 24)) := hEx.out _ b0
        generalize w.alloc (.cells #[] 24) = wa at *
        generalize w.heap.size = gl at *
        have e0a : Ext w0 wa := Ext.trans ‹Ext w0 w› ew1
        go_wp2_with fail
        refine (l6Row_any (w0 := w0) ha').mono ?_
        rw [hB1]
        rintro e wb ⟨rfl, e1⟩
        have e0b : Ext w0 wb := Ext.trans e0a e1
        go_wp2_with fail
        refine (l6Places_any (w0 := w0) hX').mono ?_
        rw [hB3]
        rintro e wc ⟨rfl, e2⟩
        obtain ⟨w2, rfl⟩ : ∃ y : World, y = wc := ⟨_, rfl⟩
        have e12 : Ext wa w2 := Ext.trans e1 e2
        have hBa := hBl.out _ ew1
        have tab2 := tab0.ext (w' := w2)
        have b2 : Below B w w2 := b0.trans (e12.below.mono hBa)
        clear hB1 hB3 hXb tab0 b0 e1 e2
        have hcl0 : Hid (∀ u, Own u B [] → Below B w u → IsInts u (.slice da a.length ca) a) := hid fun u _ hb => by
          have e := Ext.trans ‹Ext w0 w› (hEx.out _ hb)
          exact ha'.ext
        go_wp2_with fail
        go_loopw [7, 8, 9, 10] (fun ov sv rv i wr => ∃ q : Nat, q ≤ X.length ∧ i = .int .i64 q ∧ sv = .int .i64 (dcS a X q) ∧ (∃ R, Tab wr B ov (dcT a X q) R ∧ Hid (∀ u, Own u B R → Below B w u → IsInts u rv (dcA a X q))) ∧ Below B w wr) (fun _ _ _ i _ => X.length - (intOf i).toNat)
        case atStart => exact ⟨0, by omega, rfl, rfl, ⟨[], tab2, hcl0⟩, b2⟩
        case round =>
          obtain ⟨q, hq, rfl, rfl, ⟨R, tab, hcl⟩, hb⟩ := hrel
          obtain ⟨wq, rfl⟩ : ∃ y : World, y = wr := ⟨_, rfl⟩
          have eq : Ext w wq := hEx.out _ hb
          have e0q : Ext w0 wq := Ext.trans ‹Ext w0 w› eq
          have hBq := hBl.out _ eq
          obtain ⟨hA1, hA2, hA3⟩ := hall.out q hq
          have hs1 := hsum.out q hq
          by_cases hlt : q < X.length
          · obtain ⟨dO, nO, mO, rfl, hnO⟩ := tab.formN
            have hA : IsInts wq _ (dcA a X q) := hcl.out _ tab.rest hb
            obtain ⟨dA, mA, rfl, lA⟩ := hA.form
            obtain ⟨bX, oX, hdX, hcX⟩ := hX'.at (w' := wq) hlt
            cases hdX
            have hrb := hXb'.out _ (nth_mem hlt)
            have hTl : (dcT a X q).length ≤ 1000000 := by rw [dcT_len]; omega
            have hTs := hid (show dcT a X (q + 1) = dcT a X q ++ [dcA a X (q + 1)] from rfl)
            have hgs := hid (show dcS a X (q + 1) = dcS a X q + apL (dcA a X q) (dcA a X (q + 1)) from rfl)
            have hga := hid (show dcA a X (q + 1) = covL (dcA a X q) (nth X q) from rfl)
            have hA1' := hid (hall.out (q + 1) hlt)
            have hs2 := hsum.out (q + 1) hlt
            rw [hgs.out] at hs2
            obtain ⟨s, hs⟩ : ∃ y, y = dcS a X q := ⟨_, rfl⟩
            rw [← hs] at hs1 hs2 hgs ⊢
            obtain ⟨A, hAd⟩ : ∃ y, y = dcA a X q := ⟨_, rfl⟩
            rw [← hAd] at hA hA1 hA2 hA3 hgs hga hs2 lA ⊢
            obtain ⟨A2, hA2d⟩ : ∃ y, y = dcA a X (q + 1) := ⟨_, rfl⟩
            rw [← hA2d] at hTs hga hA1' hgs hs2
            obtain ⟨T, hTd⟩ : ∃ y, y = dcT a X q := ⟨_, rfl⟩
            rw [← hTd] at tab hTs hTl hnO
            obtain ⟨r, hrd⟩ : ∃ y, y = nth X q := ⟨_, rfl⟩
            rw [← hrd] at hga hcX hrb
            have hcv := l6Cover_any (w0 := wq) (w := wq) (r := r) hA hA2 (by omega) (by omega) (fun x hx => by have := hA3 x hx; omega) (by omega)
            unfold Cov2Post at hcv
            rw [← hga.out] at hcv
            have hAl : 1 ≤ A.length ∧ A.length ≤ 3 := by omega
            replace hA1 := hid hA1
            replace hs := hid hs
            replace hAd := hid hAd
            replace hA2d := hid hA2d
            replace hTd := hid hTd
            replace hrd := hid hrd
            replace hga := hid hga
            generalize apL A A2 = D at *
            replace hcv := hid hcv
            clear hcl
            go_wp2_with fail
            refine hcv.out.mono ?_
            rintro e w5 ⟨d5, m5, rfl, own5, e5⟩
            have hU : IsInts w5 (.slice d5 A.length m5) A2 := own5.reads (by unfold Short; have := hA1'.out.1; have := hA1.out; omega) (fun x hx => by have := hA1'.out.2.2 x hx; unfold I64; omega)
            have tab5 := tab.side1 own5 e5 hBq
            have hB5 : B ≤ w5.heap.size := Nat.le_trans hBq e5.size
            have b5 : Below B w w5 := hb.trans (e5.below.mono hBq)
            clear own5
            go_wp2_with fail
            with_reducible refine (l1Own_any (w0 := w5) (w := w5) hU).mono ?_
            rintro e w7 ⟨d7, m7, rfl, own7, e7⟩
            have tabX := tab5.join own7 e7 hB5
            have hB7 : B ≤ w7.heap.size := Nat.le_trans hB5 e7.size
            have b7 : Below B w w7 := b5.trans (e7.below.mono hB5)
            clear tab5 own7
            go_wp2_with (at_builtin; refine wpList_push rfl (.tmp 48) (.tmp 51) rfl rfl tabX hB7 rfl hTl ?_; intro v9 w9 tab9 b9)
            go_roundw
            case rel => exact ⟨q + 1, by omega, by go_num, by rw [hgs.out], ⟨_, by rw [hTs.out]; exact tab9, hid fun u ho _ => by rw [← hA2d.out]; exact ho.reads (by unfold Short; have := hA1'.out.1; have := hA1.out; omega) (fun x hx => by have := hA1'.out.2.2 x hx; unfold I64; omega)⟩, b7.trans b9⟩
            case measure => simp [intOf]; omega
          · have hqn : q = X.length := by omega
            have hgt : ¬ (q : Int) < (X.length : Int) := by omega
            have hok := dcT_ok hB1'.out hXb'.out X.length (Nat.le_refl _)
            have hs2 := hid (show drS a X = dcS a X q by rw [drS, hS.out, hqn, if_pos rfl])
            have ht2 := hid (show drT a X = dcT a X X.length by rw [drT, hS.out, if_pos rfl])
            rw [hqn] at tab
            have hT := tab.drop.reads (by rw [dcT_len]; unfold ShortRows; omega) (fun r hr => by have := (hok r hr).1; unfold Short; omega) (fun r hr x hx => by have := (hok r hr).2 x hx; unfold I64; omega)
            replace hqn := hid hqn
            go_wp2_with fail
            go_ret3
            rw [CrPost, hS.out, hs2.out, ht2.out]
            exact ⟨_, rfl, hT, eq⟩
end Go.Proofs.Ytohjbabjkjcddaa
