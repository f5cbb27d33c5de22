/- CruelRequests of the reference and of the program. -/
import Derived.Test.YtpiplhgiphndeaaRnI
namespace Go.Proofs.Ytpiplhgiphndeaa
open Go.RowKit

def sliceN : Value → Nat
  | .slice _ n _ => n
  | _ => 0
theorem perm_d {α : Type} (t x n : α) (Z : List α) : (t :: x :: n :: Z).Perm (x :: n :: t :: Z) := by
  classical
  refine List.perm_iff_count.2 fun y => ?_
  simp only [List.count_cons]
  omega
theorem l3Length_any (x : Int) (w : World) : Calls Try.prog 59 #[.int .i64 x] w fun e w' => e = .returned (.bool (inB x 0 60)) ∧ w = w' := by
  go_enter Try.func59, Try.ntmps59
  go_wp2_with fail
  with_reducible refine (l1In_any _ _ _ _).mono ?_
  rintro e w1 ⟨rfl, rfl⟩
  go_wp2_with fail
  go_ret
  exact ⟨rfl, rfl⟩
theorem isLength_any (x : Int) (w : World) : Calls Try.prog 64 #[.int .i64 x] w fun e w' => e = .returned (.bool (inB x 0 60)) ∧ w = w' := by
  go_enter Try.func64, Try.ntmps64
  go_wp2_with fail
  with_reducible refine (within_any _ _ _ _).mono ?_
  rintro e w1 ⟨rfl, rfl⟩
  go_wp2_with fail
  go_ret
  exact ⟨rfl, rfl⟩
theorem has_mis {a : List Int} {j : Nat} (h : j < misL a) : hasB a (j : Int) = true := hasB_true.2 (mis_in h)
theorem has_not {a : List Int} : hasB a ((misL a : Nat) : Int) = false := hasB_false.2 mis_not
set_option maxHeartbeats 400000 in
theorem l7Missing_any {v : Value} {a : List Int} {w0 w : World} [Ext w0 w] (ha : IsInts w0 v a) (hl : a.length ≤ 1000) :
    Calls Try.prog 61 #[v] w fun e w' => e = .returned (.int .i64 (misL a : Nat)) ∧ w = w' := by
  have ha' := ha
  obtain ⟨da, ma, rfl, la⟩ := ha.form
  have hml := mis_le (l := a)
  go_enter Try.func61, Try.ntmps61
  go_wp2_with fail
  go_loop [3] (fun i => ∃ j : Nat, j ≤ misL a ∧ i = .int .i64 j) (fun i => misL a - (intOf i).toNat)
  case atStart => exact ⟨0, by omega, rfl⟩
  case round =>
    obtain ⟨j, hj, rfl⟩ := hrel
    by_cases hlt : j < misL a
    · have hh := hid (has_mis hlt)
      go_wp2_with fail
      with_reducible refine (l1Has_any (w0 := w0) ha').mono ?_
      rw [hh.out]
      rintro e w1 ⟨rfl, rfl⟩
      go_wp2_with fail
      go_round
      case rel => exact ⟨j + 1, by omega, by go_num⟩
      case measure => simp [intOf]; omega
    · have hjm : j = misL a := by omega
      subst hjm
      have hh := hid (has_not (a := a))
      go_wp2_with fail
      with_reducible refine (l1Has_any (w0 := w0) ha').mono ?_
      rw [hh.out]
      rintro e w1 ⟨rfl, rfl⟩
      go_wp2_with fail
      go_ret
      exact ⟨rfl, rfl⟩

def crB (M : List (List Int)) (a : List Int) (n : Int) : Bool := metB M && (cfgB M.length a && (inB n 0 60 && decide (a.length < M.length)))
def crR (M : List (List Int)) (a : List Int) (n : Int) : List Int := if crB M a n then crL M (confs M.length a.length 0) a n.toNat else []
theorem cr_no {M : List (List Int)} {a : List Int} {n : Int} (h : crB M a n = false) : crR M a n = [] ∧ crB M a n = false := by simp [crR, h]
theorem cr_yes {M : List (List Int)} {a : List Int} {n : Int} (h : crB M a n = true) : crR M a n = crL M (confs M.length a.length 0) a n.toNat ∧ crB M a n = true := by simp [crR, h]
theorem crR_len {M : List (List Int)} {a : List Int} {n : Int} : (crR M a n).length ≤ 4000000 := by
  cases h : crB M a n with
  | false => rw [(cr_no h).1]; simp
  | true =>
    rw [(cr_yes h).1, crL_len]
    simp only [crB, Bool.and_eq_true] at h
    have := inB_true.1 h.2.2.1
    omega
theorem srv_nil {M : List (List Int)} {a : List Int} : srvB M a [] = (metB M && cfgB M.length a) := by simp [srvB, belowB]

set_option maxHeartbeats 3200000 in
set_option maxRecDepth 100000 in
theorem specCru_any {v va : Value} {M : List (List Int)} {a : List Int} {n : Int} {w0 w : World} [Ext w0 w] (hm : IsMet w0 v M) (ha : IsInts w0 va a) (_hn : I64 n) :
    Calls Try.prog 25 #[v, va, .int .i64 n] w fun e w' => ∃ d0 m0, e = .returned (.tuple #[.slice d0 (crR M a n).length m0, .bool (crB M a n)]) ∧ IsInts w' (.slice d0 (crR M a n).length m0) (crR M a n) ∧ Ext w w' := by
  have hm' := hm
  obtain ⟨v1, rfl, hR⟩ := hm
  obtain ⟨a1, c1, rfl, l1⟩ := hR.form
  have ha' := ha
  obtain ⟨da, ma, rfl, la⟩ := ha.form
  obtain ⟨w1, hw1⟩ : ∃ x, x = w.alloc (.cells #[.slice a1 M.length c1] 29) := ⟨_, rfl⟩
  have e1 : Ext w w1 := by rw [hw1]; infer_instance
  have x0 : w1.cell? ⟨w.heap.size, 0, none⟩ = some (.slice a1 M.length c1) := by rw [hw1]; go_simp
  obtain ⟨B, hB⟩ : ∃ b, b = w1.heap.size := ⟨_, rfl⟩
  have hEx := hid (show ∀ u, Below B w1 u → Ext w1 u from fun u h => ⟨by rw [← hB]; exact h⟩)
  have hBl := hid (show ∀ u, Ext w1 u → B ≤ u.heap.size from fun u e => by rw [hB]; exact e.size)
  have e01 : Ext w0 w1 := Ext.trans ‹Ext w0 w› e1
  have own0 : Own (w1.alloc (.cells #[] 3)) B [intRowOf 3 (.slice (some ⟨w1.heap.size, 0, none⟩) ([] : List Int).length 0) []] := by
    rw [hB]
    exact Own.litInts (Nat.le_refl _) rfl rfl (by simp) rfl
  have b0 : Below B w1 (w1.alloc (.cells #[] 3)) := by rw [hB]; exact (Below.refl _ _).alloc (Nat.le_refl _) _
  have eA : Ext w1 (w1.alloc (.cells #[] 3)) := inferInstance
  replace hB := hid hB
  cases hM : metB M with
  | false =>
    have hr := hid (cr_no (show crB M a n = false by simp [crB, hM]))
    replace hM := hid hM
    go_enter Try.func25, Try.ntmps25
    go_upto_region 1 with fail
    rw [← hw1]
    generalize w.heap.size = bx at *
    clear hw1
    go_upto_region 2 with fail
    generalize w1.alloc (.cells #[] 3) = w2 at *
    generalize w1.heap.size = gl at *
    have e02 : Ext w0 w2 := Ext.trans e01 eA
    have x2 := eA.cell x0
    go_wp2_with fail
    with_reducible refine (l6Good_any (w0 := w0) hm').mono ?_
    rw [hM.out]
    rintro e w3 ⟨rfl, e3⟩
    go_wp2_with fail
    go_ret2
    rw [hr.out.1, hr.out.2]
    exact ⟨_, _, rfl, isInts_zero _ _ _, Ext.trans e1 (Ext.trans eA e3)⟩
  | true =>
    have hMl := met_len hM
    have hM' := hid hM
    cases hc : cfgB M.length a with
    | false =>
      have hr := hid (cr_no (show crB M a n = false by simp [crB, hc]))
      clear hM
      replace hc := hid hc
      go_enter Try.func25, Try.ntmps25
      go_upto_region 1 with fail
      rw [← hw1]
      generalize w.heap.size = bx at *
      clear hw1
      go_upto_region 2 with fail
      generalize w1.alloc (.cells #[] 3) = w2 at *
      generalize w1.heap.size = gl at *
      have e02 : Ext w0 w2 := Ext.trans e01 eA
      have x2 := eA.cell x0
      go_wp2_with fail
      with_reducible refine (l6Good_any (w0 := w0) hm').mono ?_
      rw [hM'.out]
      rintro e w3 ⟨rfl, e3⟩
      have x3 := e3.cell x2
      have e03 : Ext w0 w3 := Ext.trans e02 e3
      go_wp2_with fail
      with_reducible refine (l6Config_any (w0 := w0) ha' (by omega)).mono ?_
      rw [hc.out]
      rintro e w4 ⟨rfl, e4⟩
      go_wp2_with fail
      go_ret2
      rw [hr.out.1, hr.out.2]
      exact ⟨_, _, rfl, isInts_zero _ _ _, Ext.trans e1 (Ext.trans eA (Ext.trans e3 e4))⟩
    | true =>
      have hk := (cfgB_iff.1 hc).1
      have hac := hid (cfg_conf hc rfl)
      cases hin : inB n 0 60 with
      | false =>
        have hr := hid (cr_no (show crB M a n = false by simp [crB, hin]))
        clear hM
        replace hc := hid hc
        replace hin := hid hin
        go_enter Try.func25, Try.ntmps25
        go_upto_region 1 with fail
        rw [← hw1]
        generalize w.heap.size = bx at *
        clear hw1
        go_upto_region 2 with fail
        generalize w1.alloc (.cells #[] 3) = w2 at *
        generalize w1.heap.size = gl at *
        have e02 : Ext w0 w2 := Ext.trans e01 eA
        have x2 := eA.cell x0
        go_wp2_with fail
        with_reducible refine (l6Good_any (w0 := w0) hm').mono ?_
        rw [hM'.out]
        rintro e w3 ⟨rfl, e3⟩
        have x3 := e3.cell x2
        have e03 : Ext w0 w3 := Ext.trans e02 e3
        go_wp2_with fail
        with_reducible refine (l6Config_any (w0 := w0) ha' (by omega)).mono ?_
        rw [hc.out]
        rintro e w4 ⟨rfl, e4⟩
        have x4 := e4.cell x3
        go_wp2_with fail
        with_reducible refine (l3Length_any _ _).mono ?_
        rw [hin.out]
        rintro e w5 ⟨rfl, rfl⟩
        go_wp2_with fail
        go_ret2
        rw [hr.out.1, hr.out.2]
        exact ⟨_, _, rfl, isInts_zero _ _ _, Ext.trans e1 (Ext.trans eA (Ext.trans e3 e4))⟩
      | true =>
        have hni := inB_true.1 hin
        obtain ⟨nn, rfl⟩ := Int.eq_ofNat_of_zero_le hni.1
        by_cases hlt : a.length < M.length
        · have hr := hid (cr_yes (show crB M a nn = true by simp [crB, hM, hc, hin, hlt]))
          rw [Int.toNat_natCast] at hr
          have hle : decide (M.length ≤ a.length) = false := by simp; omega
          have hdst := hid (dst_of_met hM)
          have hgd := hid (fun (i : Nat) (hi : i ≤ 1000) => cr_good (M := M) (a := a) hdst.out hk.1 hk.2 hlt hac.out i hi)
          have hms := hid (fun (i : Nat) (hi : i ≤ 1000) => cr_mis (M := M) (a := a) hdst.out hk.1 hk.2 hlt hac.out hi)
          have hcl := hid (show ∀ c, c ∈ confs M.length a.length 0 → c.length = a.length ∧ ∀ x ∈ c, I64 x from fun c hc => by
            obtain ⟨h1, _, h3⟩ := confs_iff.1 hc
            exact ⟨h1, fun x hx => by have := h3 x hx; unfold I64; omega⟩)
          have h216 := confs_216 hMl.2 hk.2
          have hn60 : nn ≤ 60 := by omega
          clear hM hlt hni
          replace hc := hid hc
          replace hin := hid hin
          go_enter Try.func25, Try.ntmps25
          go_upto_region 1 with fail
          rw [← hw1]
          generalize w.heap.size = bx at *
          clear hw1
          go_upto_region 2 with fail
          generalize w1.alloc (.cells #[] 3) = w2 at *
          generalize w1.heap.size = gl at *
          have e02 : Ext w0 w2 := Ext.trans e01 eA
          have x2 := eA.cell x0
          go_wp2_with fail
          with_reducible refine (l6Good_any (w0 := w0) hm').mono ?_
          rw [hM'.out]
          rintro e w3 ⟨rfl, e3⟩
          have x3 := e3.cell x2
          have e03 : Ext w0 w3 := Ext.trans e02 e3
          go_wp2_with fail
          with_reducible refine (l6Config_any (w0 := w0) ha' (by omega)).mono ?_
          rw [hc.out]
          rintro e w4 ⟨rfl, e4⟩
          have x4 := e4.cell x3
          have e04 : Ext w0 w4 := Ext.trans e03 e4
          go_wp2_with fail
          with_reducible refine (l3Length_any _ _).mono ?_
          rw [hin.out]
          rintro e w5 ⟨rfl, rfl⟩
          go_wp2_with fail
          with_reducible refine (l7Start_any (w0 := w0) hm' hM'.out ha' hk.2 hac.out).mono ?_
          rintro e w6 ⟨u6, rfl, ownW, e6⟩
          have e24 : Ext w2 w4 := Ext.trans e3 e4
          have e14 : Ext w1 w4 := Ext.trans eA e24
          have hB4 := hBl.out _ e14
          have hB2 := hBl.out _ eA
          have own6 := (Own.join (own0.ext (w' := w4)) ownW (hB := hB4)).perm (List.Perm.swap _ _ _)
          have b6 : Below B w1 w6 := ext_below (ext_below (c := w4) b0 hB2) hB4
          have e16 : Ext w1 w6 := hEx.out _ b6
          clear own0 b0 ownW x2 x3 x4
          obtain ⟨P, hPd⟩ : ∃ p, p = confs M.length a.length 0 := ⟨_, rfl⟩
          rw [← hPd] at hgd hms hcl h216 hr own6
          replace hPd := hid hPd
          have hwr := hid (show ∀ (i : Nat), i ≤ 1000 → ∀ x ∈ (crT M P a i).2, I64 x from fun i hi => good_i64 (hgd.out i hi).2 (by omega))
          have hwn := hid (show ∀ (i : Nat), i ≤ 1000 → (crT M P a i).2.length = P.length from fun i hi => (hgd.out i hi).2.1.1)
          go_wp2_with fail
          go_loopw [1, 8, 9] (fun av ov wv wr => ∃ q : Nat, q ≤ nn ∧ (∃ Z, Own wr B (intRowOf 3 ov (crL M P a q) :: Z) ∧ Hid (∀ u, Own u B Z → Below B w1 u → IsInts u av (crT M P a q).1 ∧ IsInts u wv (crT M P a q).2)) ∧ Below B w1 wr) (fun _ ov _ _ => nn - sliceN ov)
          case atStart => exact ⟨0, by omega, ⟨[intRowOf 3 u6 (wst M P a)], own6, fun u hz hu => ⟨ha'.ext (e := Ext.trans e01 (hEx.out _ hu)), hz.reads (by unfold Short; have := hwn.out 0 (by omega); rw [show wst M P a = (crT M P a 0).2 from rfl]; omega) (hwr.out 0 (by omega))⟩⟩, b6⟩
          case round =>
            clear own6 b6
            obtain ⟨q, hq, ⟨Z, hown, hrd⟩, hb⟩ := hrel
            obtain ⟨wq, rfl⟩ : ∃ y : World, y = wr := ⟨_, rfl⟩
            have eq : Ext w1 wq := hEx.out _ hb
            have e0q : Ext w0 wq := Ext.trans e01 eq
            have hBq := hBl.out _ eq
            obtain ⟨d0, n0, m0, hu8, hn0⟩ := own_formN hown
            subst hu8
            have hnq := hid (show n0 = q by rw [hn0.out, crL_len])
            obtain ⟨hA, hW⟩ := hrd.out wq hown.tail hb
            clear hrd
            by_cases hlt : q < nn
            · have hn0q : n0 < nn := by rw [hnq.out]; exact hlt
              have hgq := hgd.out q (by omega)
              have hAl := hcl.out _ hgq.1
              have hmq := hms.out q (by omega)
              have hrr := hid (show 0 ≤ ((misL (crT M P a q).1 : Nat) : Int) ∧ ((misL (crT M P a q).1 : Nat) : Int) < (M.length : Int) by omega)
              have hgW := hid (show GoodW M (confs M.length (crT M P a q).1.length 0) (crT M P a q).2 300000 by
                rw [hAl.1, ← hPd.out]
                exact hgq.2.mono (by omega))
              have hgN := hid (show GoodW M (confs M.length a.length 0) (crT M P a (q + 1)).2 300000 by
                rw [← hPd.out]
                exact (hgd.out (q + 1) (by omega)).2.mono (by omega))
              have hnw := hid (show wnxL M (confs M.length (crT M P a q).1.length 0) (crT M P a q).2 ((misL (crT M P a q).1 : Nat) : Int) = (crT M P a (q + 1)).2 by rw [hAl.1, ← hPd.out]; rfl)
              have hsc := hid (show svC M (confs M.length a.length 0) (crT M P a (q + 1)).2 (crT M P a q).1 ((misL (crT M P a q).1 : Nat) : Int) = (crT M P a (q + 1)).1 by rw [← hPd.out]; rfl)
              have hAc := hid (show (crT M P a q).1 ∈ confs M.length a.length 0 by rw [← hPd.out]; exact hgq.1)
              have hTs := hid (show crL M P a (q + 1) = crL M P a q ++ [((misL (crT M P a q).1 : Nat) : Int)] from crL_succ)
              have hA2 := hid (hcl.out _ (hgd.out (q + 1) (by omega)).1)
              have hN2 := hid (show (crT M P a (q + 1)).2.length = P.length ∧ ∀ x ∈ (crT M P a (q + 1)).2, I64 x from ⟨hwn.out (q + 1) (by omega), hwr.out (q + 1) (by omega)⟩)
              have hA3 : (crT M P a q).1.length ≤ 3 := by omega
              have hA1 : 1 ≤ (crT M P a q).1.length := by omega
              have hTl : (crL M P a q).length ≤ 1000 := by rw [crL_len]; omega
              have hn1 : n0 ≤ 1000 := by omega
              obtain ⟨T, hT⟩ : ∃ y, y = crT M P a q := ⟨_, rfl⟩
              rw [← hT] at hA hW hrr hgW hnw hsc hAc hTs hA3 hA1 hmq hAl
              obtain ⟨T2, hT2⟩ : ∃ y, y = crT M P a (q + 1) := ⟨_, rfl⟩
              rw [← hT2] at hgN hnw hsc hA2 hN2
              obtain ⟨A, W⟩ := T
              obtain ⟨A2, NW⟩ := T2
              simp only at hA hW hrr hgW hnw hsc hAc hTs hA3 hA1 hmq hAl hgN hA2 hN2
              have hA2f := hid (show (crT M P a (q + 1)).1 = A2 by rw [← hT2])
              have hN2f := hid (show (crT M P a (q + 1)).2 = NW by rw [← hT2])
              replace hT := hid hT
              replace hT2 := hid hT2
              replace hAl := hid hAl
              obtain ⟨dA, mA, hAv, lA⟩ := hA.form
              subst hAv
              obtain ⟨dW, mW, hWv, lW⟩ := hW.form
              subst hWv
              obtain ⟨L, hL⟩ : ∃ y, y = crL M P a q := ⟨_, rfl⟩
              rw [← hL] at hown hTs hTl hn0
              replace hL := hid hL
              have x0q := eq.cell x0
              go_wp2_with fail
              with_reducible refine (l7Missing_any (w0 := wq) (w := wq) hA (by omega)).mono ?_
              rintro e w7 ⟨rfl, rfl⟩
              generalize misL A = r at *
              go_wp2_with fail
              with_reducible refine (l7NextO_any (w0 := wq) (w := wq) (hm'.ext (e := e0q)) hM'.out hW hA1 hA3 hgW.out (by omega) hrr.out).mono ?_
              rw [hnw.out]
              rintro e w8 ⟨u8, rfl, own8, e8⟩
              have hN : IsInts w8 u8 NW := own8.reads (by unfold Short; rw [hN2.out.1]; omega) hN2.out.2
              have oj8 := Own.join hown own8 (hB := hBq)
              obtain ⟨dN, mN, hNv, lN⟩ := hN.form
              subst hNv
              have x8 := e8.cell x0q
              have e08 : Ext w0 w8 := Ext.trans e0q e8
              have hB8 : B ≤ w8.heap.size := Nat.le_trans hBq e8.size
              clear own8 hown
              go_wp2_with fail
              with_reducible refine (l7ServeO_any (w0 := w8) (w := w8) (hm'.ext (e := e08)) hM'.out hN (hA.ext (w' := w8)) hk.1 hk.2 hAc.out hgN.out (by omega) hrr.out).mono ?_
              rw [hsc.out]
              rintro e w9 ⟨u9, rfl, own9, e9⟩
              have oj9 := Own.join oj8 own9 (hB := hB8)
              have hB9 : B ≤ w9.heap.size := Nat.le_trans hB8 e9.size
              have b9 : Below B w1 w9 := (hb.trans (e8.below.mono hBq)).trans (e9.below.mono hB8)
              have ownL : Own w9 B (⟨3, 1, .slice d0 n0 m0, n0, L.map (Value.int .i64)⟩ :: [intRowOf 3 u9 A2, intRowOf 3 (.slice dN NW.length mN) NW]) := by
                have h := (oj9.perm (perm_d _ _ _ _)).sub (List.Sublist.cons_cons _ (List.Sublist.cons_cons _ (List.Sublist.cons_cons _ (List.nil_sublist _))))
                rw [hn0.out] at h ⊢
                exact h
              clear oj8 oj9 own9
              go_wp2_with (at_builtin; refine wpList_append1 rfl _ _ _ rfl elemInt rfl ownL hB9 rfl rfl (by omega) (by omega) ?_; intro v10 w10 ho hb10)
              have own10 := own_grow1 ho hn0.out
              obtain ⟨d10, m10, hv10⟩ := own10.form
              replace hv10 : v10 = .slice d10 (L ++ [(r : Int)]).length m10 := hv10
              go_roundw
              case rel => exact ⟨q + 1, by omega, ⟨_, by rw [hTs.out]; exact own10, fun u hz _ => by
                rw [hA2f.out, hN2f.out]
                exact ⟨hz.reads (by unfold Short; have := hA2.out.1; omega) hA2.out.2, hz.tail.reads (by unfold Short; rw [hN2.out.1]; omega) hN2.out.2⟩⟩, b9.trans hb10⟩
              case measure =>
                rw [hv10]
                have : L.length = n0 := hn0.out.symm
                simp [sliceN, this]; omega
            · have hqn : q = nn := by omega
              have hn0q : ¬ n0 < nn := by rw [hnq.out]; omega
              have hfin := hid (show IsInts wq (.slice d0 n0 m0) (crL M P a nn) by
                rw [hqn] at hown
                exact hown.reads (by unfold Short; rw [crL_len]; omega) (fun x hx => by
                  obtain ⟨i, hi, rfl⟩ := List.mem_map.1 hx
                  have := List.mem_range.1 hi
                  have := hms.out i (by omega)
                  unfold I64; omega))
              have hnl : Hid (n0 = (crL M P a nn).length) := hid (by rw [hn0.out, hqn])
              replace hqn := hid hqn
              go_wp2_with fail
              go_ret2
              rw [hr.out.1, hr.out.2]
              rw [hnl.out] at hfin ⊢
              exact ⟨_, _, rfl, hfin.out, Ext.trans e1 eq⟩
        · have hr := hid (cr_no (show crB M a nn = false by simp [crB]; intro _ _ _; omega))
          have hle : decide (M.length ≤ a.length) = true := by simp; omega
          clear hM
          replace hc := hid hc
          replace hin := hid hin
          go_enter Try.func25, Try.ntmps25
          go_upto_region 1 with fail
          rw [← hw1]
          generalize w.heap.size = bx at *
          clear hw1
          go_upto_region 2 with fail
          generalize w1.alloc (.cells #[] 3) = w2 at *
          generalize w1.heap.size = gl at *
          have e02 : Ext w0 w2 := Ext.trans e01 eA
          have x2 := eA.cell x0
          go_wp2_with fail
          with_reducible refine (l6Good_any (w0 := w0) hm').mono ?_
          rw [hM'.out]
          rintro e w3 ⟨rfl, e3⟩
          have x3 := e3.cell x2
          have e03 : Ext w0 w3 := Ext.trans e02 e3
          go_wp2_with fail
          with_reducible refine (l6Config_any (w0 := w0) ha' (by omega)).mono ?_
          rw [hc.out]
          rintro e w4 ⟨rfl, e4⟩
          have x4 := e4.cell x3
          go_wp2_with fail
          with_reducible refine (l3Length_any _ _).mono ?_
          rw [hin.out]
          rintro e w5 ⟨rfl, rfl⟩
          go_wp2_with fail
          go_ret2
          rw [hr.out.1, hr.out.2]
          exact ⟨_, _, rfl, isInts_zero _ _ _, Ext.trans e1 (Ext.trans eA (Ext.trans e3 e4))⟩
end Go.Proofs.Ytpiplhgiphndeaa
