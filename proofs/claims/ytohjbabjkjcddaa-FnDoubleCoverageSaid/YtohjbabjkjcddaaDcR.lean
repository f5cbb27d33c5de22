/- Double coverage walked: the run of the program, and its potential at first. -/
import Derived.Test.YtohjbabjkjcddaaDcX
import Derived.Test.YtohjbabjkjcddaaDcQ
import Derived.Test.YtohjbabjkjcddaaOrd
import Derived.Test.YtohjbabjkjcddaaCfg
namespace Go.Proofs.Ytohjbabjkjcddaa
open Go.RowKit

theorem Tab.side1 {w w' : World} {B : Nat} {v : Value} {M : List (List Int)} {R S : List Row} (h : Tab w B v M R) (hn : Own w' w.heap.size S) (e : Ext w w') (hB : B ≤ w.heap.size) : Tab w' B v M S := by
  obtain ⟨vs, h1, h2⟩ := h
  have h3 := Own.join h2 hn (hB := hB)
  exact ⟨vs, h1, h3.swap.sub (List.Sublist.append (List.sublist_append_left _ _) (List.Sublist.refl _))⟩
/-- what a row and requests are -/
def drB (a X : List Int) : Bool := rowB a && plcB X 60
theorem rowB_iff {a : List Int} : rowB a = true ↔ (1 ≤ a.length ∧ a.length ≤ 3) ∧ (∀ x ∈ a, 0 ≤ x ∧ x ≤ 99) ∧ Asc a := by
  unfold rowB lenB belowB
  rw [Bool.and_eq_true, Bool.and_eq_true, inB_true, decide_eq_true_eq]
  constructor
  · rintro ⟨⟨h1, h2⟩, h3⟩
    refine ⟨by omega, fun x hx => ?_, ?_⟩
    · have := inB_true.1 (h2 x hx); omega
    · match a, h1, h3 with
      | [x], _, _ => exact asc1 x
      | [x, y], _, h3 =>
        have := (of_decide_eq_true h3 : ∀ i, i < 1 → _) 0 (by omega)
        exact asc2.2 this
      | [x, y, z], _, h3 =>
        have h4 := (of_decide_eq_true h3 : ∀ i, i < 2 → _) 0 (by omega)
        have h5 := (of_decide_eq_true h3 : ∀ i, i < 2 → _) 1 (by omega)
        have h4' : x ≤ y := h4
        have h5' : y ≤ z := h5
        exact asc3.2 (by omega)
      | _ :: _ :: _ :: _ :: l, h1, _ => simp at h1; omega
  · rintro ⟨h1, h2, h3⟩
    refine ⟨⟨by omega, fun x hx => inB_true.2 (by have := h2 x hx; omega)⟩, ?_⟩
    match a, h1, h3 with
    | [x], _, _ => exact ascB_of fun i hi => by simp at hi
    | [x, y], _, h3 =>
      refine ascB_of fun i hi => ?_
      have hi : i = 0 := by have : i + 1 < 2 := hi; omega
      subst hi
      exact asc2.1 h3
    | [x, y, z], _, h3 =>
      refine ascB_of fun i hi => ?_
      have h4 := asc3.1 h3
      have hi : i = 0 ∨ i = 1 := by have : i + 1 < 3 := hi; omega
      rcases hi with rfl | rfl
      · exact h4.1.1
      · exact h4.2
    | _ :: _ :: _ :: _ :: l, h1, _ => simp at h1
/-- all that holds of the rows of a run -/
theorem dcA_ok {a X : List Int} (ha : rowB a = true) (hX : ∀ x ∈ X, 0 ≤ x ∧ x ≤ 99) : ∀ q, q ≤ X.length → (dcA a X q).length = a.length ∧ Asc (dcA a X q) ∧ ∀ x ∈ dcA a X q, 0 ≤ x ∧ x ≤ 99
  | 0, _ => by
    have h := rowB_iff.1 ha
    exact ⟨rfl, h.2.2, h.2.1⟩
  | q + 1, hq => by
    obtain ⟨h1, h2, h3⟩ := dcA_ok ha hX q (by omega)
    have h := (rowB_iff.1 ha).1
    have hr := hX _ (nth_mem (show q < X.length by omega))
    refine ⟨?_, cov_asc h2 (by omega) (by omega), covL_in h2 (by omega) (by omega) h3 hr⟩
    show (covL (dcA a X q) (nth X q)).length = _
    rw [covL_len, h1]
theorem dcS_in {a X : List Int} (ha : rowB a = true) (hX : ∀ x ∈ X, 0 ≤ x ∧ x ≤ 99) : ∀ q, q ≤ X.length → 0 ≤ dcS a X q ∧ dcS a X q ≤ 6000 * (q : Int)
  | 0, _ => ⟨Int.le_refl _, Int.le_refl _⟩
  | q + 1, hq => by
    have ih := dcS_in ha hX q (by omega)
    obtain ⟨h1, h2, h3⟩ := dcA_ok ha hX q (by omega)
    obtain ⟨h4, h5, h6⟩ := dcA_ok ha hX (q + 1) hq
    have h := (rowB_iff.1 ha).1
    have h7 := apTo_le (a := dcA a X q) (b := dcA a X (q + 1)) (fun x hx => by have := h3 x hx; omega) (fun x hx => by have := h6 x hx; omega) (dcA a X q).length (Nat.le_refl _) (by omega)
    rw [apTo_all (by omega)] at h7
    have h8 := apL_nn (dcA a X q) (dcA a X (q + 1))
    show 0 ≤ dcS a X q + apL (dcA a X q) (dcA a X (q + 1)) ∧ dcS a X q + apL (dcA a X q) (dcA a X (q + 1)) ≤ 6000 * ((q + 1 : Nat) : Int)
    omega
def drT (a X : List Int) : List (List Int) := if drB a X then dcT a X X.length else []
def drS (a X : List Int) : Int := if drB a X then dcS a X X.length else 0
theorem dcT_ok {a X : List Int} (ha : rowB a = true) (hX : ∀ x ∈ X, 0 ≤ x ∧ x ≤ 99) : ∀ q, q ≤ X.length → ∀ r ∈ dcT a X q, r.length ≤ 3 ∧ ∀ x ∈ r, 0 ≤ x ∧ x ≤ 99
  | 0, _, r, hr => by cases hr
  | q + 1, hq, r, hr => by
    rcases List.mem_append.1 hr with h | h
    · exact dcT_ok ha hX q (by omega) r h
    · obtain ⟨h1, h2, h3⟩ := dcA_ok ha hX (q + 1) hq
      have := (rowB_iff.1 ha).1
      rw [List.mem_singleton.1 h]
      exact ⟨by omega, h3⟩
theorem drB_iff {a X : List Int} (h : drB a X = true) : rowB a = true ∧ X.length ≤ 60 ∧ ∀ x ∈ X, 0 ≤ x ∧ x ≤ 99 := by
  unfold drB plcB belowB at h
  rw [Bool.and_eq_true, Bool.and_eq_true, decide_eq_true_eq, decide_eq_true_eq] at h
  exact ⟨h.1, by omega, fun x hx => by have := inB_true.1 (h.2.2 x hx); omega⟩
theorem rows_nil0 (u : World) (d : Option Addr) (c : Nat) : IsRows u (.slice d 0 c) [] := ⟨d, c, rfl, by unfold ShortRows; simp, fun j hj => by simp at hj⟩
def CrPost (a X : List Int) (w : World) (e : Ending) (w' : World) : Prop :=
  ∃ u, e = .returned (.tuple #[u, .int .i64 (drS a X), .bool (drB a X)]) ∧ IsRows w' u (drT a X) ∧ Ext w w'
set_option maxHeartbeats 1600000 in
set_option maxRecDepth 100000 in
theorem implCr_any {va vX : Value} {a X : List Int} {w0 w : World} [Ext w0 w] (ha : IsInts w0 va a) (hXi : IsInts w0 vX X) :
    Calls Try.prog 10 #[va, vX] w fun e w' => CrPost a X w e w' := by
  have ha' := ha
  have hX' := hXi
  obtain ⟨da, ca, rfl, la⟩ := ha.form
  obtain ⟨dX, cX, rfl, lX⟩ := hXi.form
  cases hB1 : rowB a with
  | false =>
    have hS := hid (show drB a X = false by rw [drB, hB1]; rfl)
    have hs := hid (show drS a X = 0 by rw [drS, hS.out]; rfl)
    have ht := hid (show drT a X = [] by rw [drT, hS.out]; rfl)
    go_enter Try.func10, Try.ntmps10
    go_wp2_with fail
    refine (isRow_any (w0 := w0) ha').mono ?_
    rw [hB1]
    rintro e w1 ⟨rfl, e1⟩
    go_wp2_with fail
    go_ret3
    rw [CrPost, hS.out, hs.out, ht.out]
    exact ⟨_, rfl, rows_nil0 _ _ _, e1⟩
  | true =>
    cases hB2 : plcB X 60 with
    | false =>
      have hS := hid (show drB a X = false by rw [drB, hB1, hB2]; rfl)
      have hs := hid (show drS a X = 0 by rw [drS, hS.out]; rfl)
      have ht := hid (show drT a X = [] by rw [drT, hS.out]; rfl)
      go_enter Try.func10, Try.ntmps10
      go_wp2_with fail
      refine (isRow_any (w0 := w0) ha').mono ?_
      rw [hB1]
      rintro e w1 ⟨rfl, e1⟩
      have e01 : Ext w0 w1 := Ext.trans ‹Ext w0 w› e1
      go_wp2_with fail
      refine (arePlaces_any (w0 := w0) hX').mono ?_
      rw [hB2]
      rintro e w2 ⟨rfl, e2⟩
      go_wp2_with fail
      go_ret3
      rw [CrPost, hS.out, hs.out, ht.out]
      exact ⟨_, rfl, rows_nil0 _ _ _, Ext.trans e1 e2⟩
    | true =>
      have hS := hid (show drB a X = true by rw [drB, hB1, hB2]; rfl)
      obtain ⟨_, hXl, hXb⟩ := drB_iff hS.out
      have hall := hid (dcA_ok (a := a) (X := X) hB1 hXb)
      have hsum := hid (dcS_in (a := a) (X := X) hB1 hXb)
      have hrow := (rowB_iff.1 hB1).1
      have hB1' := hid hB1
      have hXb' := hid hXb
      go_enter Try.func10, Try.ntmps10
      go_wp2_with fail
      refine (isRow_any (w0 := w0) ha').mono ?_
      rw [hB1]
      rintro e w0' ⟨rfl, e1⟩
      have e01 : Ext w0 w0' := Ext.trans ‹Ext w0 w› e1
      go_wp2_with fail
      refine (arePlaces_any (w0 := w0) hX').mono ?_
      rw [hB2]
      rintro e w1 ⟨rfl, e2⟩
      have e1w : Ext w w1 := Ext.trans e1 e2
      have e01 : Ext w0 w1 := Ext.trans ‹Ext w0 w› e1w
      clear hB1 hB2 hXb
      obtain ⟨B, hB⟩ : ∃ b, b = w1.heap.size := ⟨_, rfl⟩
      have hEx := hid (show ∀ u, Below B w1 u → Ext w1 u from fun u h => ⟨by rw [← hB]; exact h⟩)
      have hBl := hid (show ∀ u, Ext w1 u → B ≤ u.heap.size from fun u e => by rw [hB]; exact e.size)
      have tab0 : Tab (w1.alloc (.cells #[] 24)) B (.slice (some ⟨w1.heap.size, 0, none⟩) 0 0) [] [] := Tab.start (Own.nil _ _) (by rw [hB]; exact Nat.le_refl _)
      have b0 : Below B w1 (w1.alloc (.cells #[] 24)) := by rw [hB]; exact (Below.refl _ _).alloc (Nat.le_refl _) _
      go_upto_region 4 with fail
      replace hB := hid hB
      generalize w1.alloc (.cells #[] 24) = w2 at *
      generalize w1.heap.size = gl at *
      have hcl0 : Hid (∀ u, Own u B [] → Below B w1 u → IsInts u (.slice da a.length ca) a) := hid fun u _ hb => by
        have e := Ext.trans e01 (hEx.out _ hb)
        exact ha'.ext
      go_wp2_with fail
      go_loopw [0, 7, 8, 10, 11, 23] (fun rv ov sv _ _ i wr => ∃ q : Nat, q ≤ X.length ∧ i = .int .i64 q ∧ sv = .int .i64 (dcS a X q) ∧ (∃ R, Tab wr B ov (dcT a X q) R ∧ Hid (∀ u, Own u B R → Below B w1 u → IsInts u rv (dcA a X q))) ∧ Below B w1 wr) (fun _ _ _ _ _ i _ => X.length - (intOf i).toNat)
      case atStart => exact ⟨0, by omega, rfl, rfl, ⟨[], tab0, hcl0⟩, b0⟩
      case round =>
        obtain ⟨q, hq, rfl, rfl, ⟨R, tab, hcl⟩, hb⟩ := hrel
        obtain ⟨wq, rfl⟩ : ∃ y : World, y = wr := ⟨_, rfl⟩
        have eq : Ext w1 wq := hEx.out _ hb
        have e0q : Ext w0 wq := Ext.trans e01 eq
        have hBq := hBl.out _ eq
        obtain ⟨hA1, hA2, hA3⟩ := hall.out q hq
        have hs1 := hsum.out q hq
        by_cases hlt : q < X.length
        · obtain ⟨dO, nO, mO, rfl, hnO⟩ := tab.formN
          have hA : IsInts wq _ (dcA a X q) := hcl.out _ tab.rest hb
          obtain ⟨dA, mA, rfl, lA⟩ := hA.form
          obtain ⟨bX, oX, hdX, hcX⟩ := hX'.at (w' := wq) hlt
          cases hdX
          have hrb := hXb'.out _ (nth_mem hlt)
          have hTl : (dcT a X q).length ≤ 1000000 := by rw [dcT_len]; omega
          have hTs := hid (show dcT a X (q + 1) = dcT a X q ++ [dcA a X (q + 1)] from rfl)
          have hgs := hid (show dcS a X (q + 1) = dcS a X q + apL (dcA a X q) (dcA a X (q + 1)) from rfl)
          have hga := hid (show dcA a X (q + 1) = covL (dcA a X q) (nth X q) from rfl)
          have hA1' := hid (hall.out (q + 1) hlt)
          have hs2 := hsum.out (q + 1) hlt
          rw [hgs.out] at hs2
          obtain ⟨s, hs⟩ : ∃ y, y = dcS a X q := ⟨_, rfl⟩
          rw [← hs] at hs1 hs2 hgs ⊢
          obtain ⟨A, hAd⟩ : ∃ y, y = dcA a X q := ⟨_, rfl⟩
          rw [← hAd] at hA hA1 hA2 hA3 hgs hga hs2 lA ⊢
          obtain ⟨A2, hA2d⟩ : ∃ y, y = dcA a X (q + 1) := ⟨_, rfl⟩
          rw [← hA2d] at hTs hga hA1' hgs hs2
          obtain ⟨T, hTd⟩ : ∃ y, y = dcT a X q := ⟨_, rfl⟩
          rw [← hTd] at tab hTs hTl hnO
          obtain ⟨r, hrd⟩ : ∃ y, y = nth X q := ⟨_, rfl⟩
          rw [← hrd] at hga hcX hrb
          have hcv := covered_any (w0 := wq) (w := wq) (r := r) hA hA2 (by omega) (by omega) (fun x hx => by have := hA3 x hx; omega) (by omega)
          have hAl : 1 ≤ A.length ∧ A.length ≤ 3 := by omega
          replace hA1 := hid hA1
          replace hs := hid hs
          replace hAd := hid hAd
          replace hA2d := hid hA2d
          replace hTd := hid hTd
          replace hrd := hid hrd
          replace hcv := hid hcv
          clear hcl
          go_wp2_with fail
          with_reducible refine hcv.out.mono ?_
          unfold CovPost
          rw [← hga.out]
          rintro e w5 ⟨d5, m5, rfl, own5, e5⟩
          have hU : IsInts w5 (.slice d5 A.length m5) A2 := own5.reads (by unfold Short; have := hA1'.out.1; have := hA1.out; omega) (fun x hx => by have := hA1'.out.2.2 x hx; unfold I64; omega)
          have tab5 := tab.side1 own5 e5 hBq
          have hB5 : B ≤ w5.heap.size := Nat.le_trans hBq e5.size
          have hA5 := hA.ext (w' := w5)
          have hrd2 := rowDistance_any (w0 := w5) (w := w5) hA5 hU (by have := hA1'.out.1; have := hA1.out; omega) (fun x hx => by have := hA3 x hx; omega) (fun x hx => by have := hA1'.out.2.2 x hx; omega) (by omega)
          replace hrd2 := hid hrd2
          generalize apL A A2 = D at *
          clear own5
          go_wp2_with fail
          refine hrd2.out.mono ?_
          rintro e w6 ⟨rfl, e6⟩
          have hU6 := hU.ext (w' := w6)
          have tab6 := tab5.ext (w' := w6)
          have hB6 : B ≤ w6.heap.size := Nat.le_trans hB5 e6.size
          have b6 : Below B w1 w6 := (hb.trans (e5.below.mono hBq)).trans (e6.below.mono hB5)
          go_wp2_with fail
          with_reducible refine (cloneInts_any (w0 := w6) (w := w6) hU6).mono ?_
          rintro e w7 ⟨d7, m7, rfl, own7, e7⟩
          have tabX := tab6.join own7 e7 hB6
          have hB7 : B ≤ w7.heap.size := Nat.le_trans hB6 e7.size
          have b7 : Below B w1 w7 := b6.trans (e7.below.mono hB6)
          clear tab5 tab6 own7
          go_wp2_with (at_builtin; refine wpList_push rfl (.tmp 35) (.tmp 38) rfl rfl tabX hB7 rfl hTl ?_; intro v9 w9 tab9 b9)
          go_roundw
          case rel => exact ⟨q + 1, by omega, by go_num, by rw [hgs.out], ⟨_, by rw [hTs.out]; exact tab9, hid fun u ho _ => by rw [← hA2d.out]; exact ho.reads (by unfold Short; have := hA1'.out.1; have := hA1.out; omega) (fun x hx => by have := hA1'.out.2.2 x hx; unfold I64; omega)⟩, b7.trans b9⟩
          case measure => simp [intOf]; omega
        · have hqn : q = X.length := by omega
          have hgt : ¬ (q : Int) < (X.length : Int) := by omega
          have hok := dcT_ok hB1'.out hXb'.out X.length (Nat.le_refl _)
          have hs2 := hid (show drS a X = dcS a X q by rw [drS, hS.out, hqn, if_pos rfl])
          have ht2 := hid (show drT a X = dcT a X X.length by rw [drT, hS.out, if_pos rfl])
          rw [hqn] at tab
          have hT := tab.drop.reads (by rw [dcT_len]; unfold ShortRows; omega) (fun r hr => by have := (hok r hr).1; unfold Short; omega) (fun r hr x hx => by have := (hok r hr).2 x hx; unfold I64; omega)
          replace hqn := hid hqn
          go_wp2_with fail
          go_ret3
          rw [CrPost, hS.out, hs2.out, ht2.out]
          exact ⟨_, rfl, hT, Ext.trans e1w eq⟩
end Go.Proofs.Ytohjbabjkjcddaa
