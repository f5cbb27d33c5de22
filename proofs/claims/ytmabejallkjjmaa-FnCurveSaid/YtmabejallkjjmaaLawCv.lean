/- 'laws.FnCurve': for every code the law returns true. -/
import Derived.Test.YtmabejallkjjmaaCvK
import Derived.Test.YtmabejallkjjmaaPgL
import Derived.Test.YtmabejallkjjmaaRlaw
namespace Go.Proofs.Ytmabejallkjjmaa
open Go.RowKit

theorem cnL_pos {n : Nat} {X : List Int} {p : Nat} (h : p < n) : 0 < nth (cnL n X X.length) p ↔ (p : Int) ∈ X := by
  rw [cnL_at h, List.take_length]
  have h2 := List.count_pos_iff (a := (p : Int)) (l := X)
  constructor
  · intro h3; exact h2.1 (by omega)
  · intro h3; have := h2.2 h3; omega

set_option maxHeartbeats 3200000 in
set_option maxRecDepth 100000 in
theorem lawFnCurve_any {v : Value} {nb : Nat} {w : World} (hc : IsBytes w v nb) :
    Calls Try.prog 4 #[v] w fun e w' => e = .returned (.bool true) ∧ Ext w w' := by
  have hc' := hc
  obtain ⟨ac, cc, rfl⟩ := hc.form
  by_cases hbig : 65536 < nb
  · have hd := hid (decide_eq_true hbig)
    go_enter Try.func4, Try.ntmps4
    go_wp2_with fail
    refine (rBig_any hc').mono ?_
    rw [hd.out]
    rintro e w1 ⟨rfl, rfl⟩
    go_wp2_with fail
    go_ret
    exact ⟨rfl, Ext.refl _⟩
  · have hd := hid (decide_eq_false hbig)
    go_enter Try.func4, Try.ntmps4
    go_wp2_with fail
    refine (rBig_any hc').mono ?_
    rw [hd.out]
    rintro e w1 ⟨rfl, rfl⟩
    go_wp2_with fail
    refine (drawCv_any (w0 := w) (w := w) hc').mono ?_
    rintro e w1 ⟨n, vX, X, rfl, hn, hX, hXl, e1⟩
    obtain ⟨dX, mX, rfl, lX⟩ := hX.form
    have hnb : -100 ≤ n ∧ n ≤ 100 := by omega
    obtain ⟨Q, hQ⟩ : ∃ q, q = seqOk n X := ⟨_, rfl⟩
    obtain ⟨L, hL⟩ : ∃ q, q = cvR n X := ⟨_, rfl⟩
    obtain ⟨C, hC⟩ : ∃ q, q = cnR n X := ⟨_, rfl⟩
    replace hQ := hid hQ
    replace hL := hid hL
    replace hC := hid hC
    have q1 : (Q != Q) = false := by simp
    go_wp2_with fail
    with_reducible refine (implCv_any (w0 := w1) (w := w1) hX hnb).mono ?_
    rw [← hQ.out, ← hL.out]
    rintro e w2 ⟨uL, rfl, hL1, e2⟩
    obtain ⟨dL, mL, rfl, lL⟩ := hL1.form
    go_wp2_with fail
    with_reducible refine (specCv_any (w0 := w1) (w := w2) hX hnb).mono ?_
    rw [← hQ.out, ← hL.out]
    rintro e w3 ⟨uL2, rfl, hL2, e3⟩
    obtain ⟨dL2, mL2, rfl, lL2⟩ := hL2.form
    have hL1 := hL1.ext (w' := w3)
    have g3 : Ext w1 w3 := Ext.trans e2 e3
    go_wp2_with fail
    with_reducible refine (rInts_eq (w0 := w3) (w := w3) hL1 hL2).mono ?_
    rintro e w4 ⟨rfl, e4⟩
    have g4 : Ext w1 w4 := Ext.trans g3 e4
    have hL1 := hL1.ext (w' := w4)
    clear hL2
    go_wp2_with fail
    with_reducible refine (implCn_any (w0 := w1) (w := w4) hX hnb).mono ?_
    rw [← hQ.out, ← hC.out]
    rintro e w5 ⟨uC, rfl, hC1, e5⟩
    obtain ⟨dC, mC, rfl, lC⟩ := hC1.form
    have hL1 := hL1.ext (w' := w5)
    have g5 : Ext w1 w5 := Ext.trans g4 e5
    clear hX
    cases Q with
    | false =>
      go_wp2_with fail
      go_ret
      exact ⟨rfl, Ext.trans e1 g5⟩
    | true =>
      clear q1
      obtain ⟨hn2, hl, hpg⟩ := seqOk_in hQ.out.symm
      obtain ⟨N, rfl⟩ := Int.eq_ofNat_of_zero_le (show 0 ≤ n by omega)
      rw [Int.toNat_natCast] at hpg
      have hLe : L = cvTo X 6 := by rw [hL.out, cvR, ← hQ.out]; rfl
      have hCe : C = cnL N X X.length := by rw [hC.out, cnR, ← hQ.out]; rfl
      subst hLe
      subst hCe
      have hX0 : ∀ s, s < X.length → 0 ≤ nth X s := fun s hs => (hpg s hs).1
      obtain ⟨q, hq⟩ : ∃ q : Nat → Nat, ∀ i : Nat, q i = optF ((i : Int) + 1) X := ⟨fun i => optF ((i : Int) + 1) X, fun _ => rfl⟩
      obtain ⟨D, hD⟩ : ∃ D, D = (difL X).length := ⟨_, rfl⟩
      have hlaw : ∀ i : Nat, D ≤ q i ∧ (D ≤ i + 1 → q i = D) ∧ q i ≤ X.length ∧ q (i + 1) ≤ q i ∧ 2 * q (i + 1) ≤ q i + q (i + 2) := fun i => by
        obtain ⟨h1, h2, h3, h4, _⟩ := cv_law hX0 (k := (i : Int) + 1) (by omega)
        obtain ⟨_, _, _, _, h5⟩ := cv_law hX0 (k := (i : Int) + 1 + 1) (by omega)
        have h5 := h5 (by omega)
        rw [show (i : Int) + 1 + 1 - 1 = (i : Int) + 1 by omega] at h5
        have e1 : optF ((i : Int) + 1 + 1) X = q (i + 1) := by rw [hq]; congr 1
        have e2 : optF ((i : Int) + 1 + 1 + 1) X = q (i + 2) := by rw [hq]; congr 1
        rw [e1, e2, ← hq] at h5
        rw [← hq, ← hD] at h1 h2
        rw [← hq] at h3 h4
        rw [e1] at h4
        exact ⟨h1, fun h => h2 (by omega), h3, h4, h5⟩
      have hat : ∀ i, i < 6 → nth (cvTo X 6) i = q i := fun i hi => by
        rw [hq]; simp [cvTo, nth, hi]
      have hDn : dfTo X N = D := by rw [dfTo_all hpg, hD]
      have hpos : ∀ p, p < N → (0 < nth (cnL N X X.length) p ↔ (p : Int) ∈ X) := fun p hp => cnL_pos hp
      have hcb : ∀ p, p < N → 0 ≤ nth (cnL N X X.length) p ∧ nth (cnL N X X.length) p ≤ X.length := fun p hp => cnL_bd hp
      have hCl := cnL_len N X X.length
      have hLl := cvTo_len X 6
      have hX60 : X.length ≤ 60 := hl
      obtain ⟨xl, hxl⟩ : ∃ xl, xl = X.length := ⟨_, rfl⟩
      replace hQ := hid hQ
      replace hL := hid hL
      replace hC := hid hC
      replace hD := hid hD
      replace hDn := hid hDn
      replace hpos := hid hpos
      replace hcb := hid hcb
      replace hlaw := hid hlaw
      replace hat := hid hat
      replace hq := hid hq
      replace hpg := hid hpg
      replace hCl := hid hCl
      replace hLl := hid hLl
      clear hX0 hX60
      rw [hCl.out] at lC ⊢
      rw [hLl.out] at lL ⊢
      go_wp2_with fail
      go_loopw [11, 12] (fun dv iv wr => ∃ i : Nat, i ≤ N ∧ dv = .int .i64 (dfTo X i) ∧ iv = .int .i64 i ∧ Ext w5 wr) (fun _ iv _ => N - (intOf iv).toNat)
      case atStart => exact ⟨0, by omega, rfl, rfl, Ext.refl _⟩
      case round =>
        obtain ⟨i, hi, rfl, rfl, he⟩ := hrel
        obtain ⟨wq, rfl⟩ : ∃ y : World, y = wr := ⟨_, rfl⟩
        have hdl := dfTo_le X i
        by_cases hlt : i < N
        · obtain ⟨bC, oC, hdC, hcC⟩ := hC1.at (w' := wq) (k := i) (by rw [hCl.out]; exact hlt)
          cases hdC
          have hs := hid (dfTo_succ X i)
          have hp := hpos.out i hlt
          have hb := hcb.out i hlt
          obtain ⟨y, hy⟩ : ∃ y, y = nth (cnL N X X.length) i := ⟨_, rfl⟩
          rw [← hy] at hcC hp hb
          replace hy := hid hy
          by_cases hm : (i : Int) ∈ X
          · have hgt : decide (y > 0) = true := decide_eq_true (hp.2 hm)
            have hs2 := hid (show dfTo X (i + 1) = dfTo X i + 1 by rw [hs.out, if_pos hm])
            clear hp
            replace hm := hid hm
            go_wp2_with fail
            go_roundw
            case rel => exact ⟨i + 1, by omega, by rw [hs2.out]; go_num, by go_num, he⟩
            case measure => simp [intOf]; omega
          · have hgt : decide (y > 0) = false := decide_eq_false (fun h => hm (hp.1 h))
            have hs2 := hid (show dfTo X (i + 1) = dfTo X i by rw [hs.out, if_neg hm]; rfl)
            clear hp
            replace hm := hid hm
            go_wp2_with fail
            go_roundw
            case rel => exact ⟨i + 1, by omega, by rw [hs2.out], by go_num, he⟩
            case measure => simp [intOf]; omega
        · have hiN : i = N := by omega
          have hdf : dfTo X i = D := by rw [hiN]; exact hDn.out
          rw [hdf] at hdl ⊢
          replace hdf := hid hdf
          replace hiN := hid hiN
          go_wp2_with fail
          go_loopw [13] (fun iv wr => ∃ j : Nat, j ≤ 6 ∧ iv = .int .i64 j ∧ Ext wq wr) (fun iv _ => 6 - (intOf iv).toNat)
          case atStart => exact ⟨0, by omega, rfl, Ext.refl _⟩
          case round =>
            clear hlt hi hdl
            obtain ⟨j, hj, rfl, hej⟩ := hrel
            obtain ⟨wj, rfl⟩ : ∃ y : World, y = wr := ⟨_, rfl⟩
            have e5j : Ext w5 wj := Ext.trans he hej
            by_cases hlt : j < 6
            · have hc6 : ∀ s, s < 6 → ∃ bL oL, dL = some ⟨bL, oL, none⟩ ∧ wj.cell? ⟨bL, oL + s, none⟩ = some (.int .i64 (q s)) := fun s hs => by
                obtain ⟨bL, oL, hdL, hcL⟩ := hL1.at (w' := wj) (k := s) (by rw [hLl.out]; exact hs)
                rw [hat.out s hs] at hcL
                exact ⟨bL, oL, hdL, hcL⟩
              obtain ⟨bL, oL, hdL, c0⟩ := hc6 0 (by omega)
              cases hdL
              obtain ⟨_, _, hdL, c1⟩ := hc6 1 (by omega)
              cases hdL
              obtain ⟨_, _, hdL, c2⟩ := hc6 2 (by omega)
              cases hdL
              obtain ⟨_, _, hdL, c3⟩ := hc6 3 (by omega)
              cases hdL
              obtain ⟨_, _, hdL, c4⟩ := hc6 4 (by omega)
              cases hdL
              obtain ⟨_, _, hdL, c5⟩ := hc6 5 (by omega)
              cases hdL
              clear hc6
              simp only [Nat.add_zero] at c0
              obtain rfl | rfl | rfl | rfl | rfl | rfl : j = 0 ∨ j = 1 ∨ j = 2 ∨ j = 3 ∨ j = 4 ∨ j = 5 := by omega
              · skip
                obtain ⟨l1, l2, l3, l4, l5⟩ := hlaw.out 0
                obtain ⟨k1, k2, k3, k4, k5⟩ := hlaw.out 0
                obtain ⟨m1, m2, m3, m4, m5⟩ := hlaw.out 1
                have t1 : ¬ q 0 < D := by omega
                have t3 : ¬ X.length < q 0 := by omega
                have z1 : q 0 ≤ 60 := by omega
                have z2 : q 0 ≤ 60 := by omega
                have z3 : q 1 ≤ 60 := by omega
                by_cases hD2 : D ≤ 0 + 1
                · have hb : ((q 0 : Int) != (D : Int)) = false := by rw [l2 hD2]; simp
                  have ht2 : D ≤ 1 := hD2
                  clear l1 l2 l3 l4 l5 k1 k2 k3 k4 k5 m1 m2 m3 m4 m5 hD2
                  go_wp2_with (go_quiet (fail))
                  go_roundw
                  case rel => exact ⟨0 + 1, by omega, by go_num, Ext.trans hej inferInstance⟩
                  case measure => simp [intOf]
                · have ht2 : ¬ D ≤ 1 := hD2
                  clear l1 l2 l3 l4 l5 k1 k2 k3 k4 k5 m1 m2 m3 m4 m5 hD2
                  go_wp2_with (go_quiet (fail))
                  go_roundw
                  case rel => exact ⟨0 + 1, by omega, by go_num, Ext.trans hej inferInstance⟩
                  case measure => simp [intOf]
              · skip
                obtain ⟨l1, l2, l3, l4, l5⟩ := hlaw.out 1
                obtain ⟨k1, k2, k3, k4, k5⟩ := hlaw.out 0
                obtain ⟨m1, m2, m3, m4, m5⟩ := hlaw.out 2
                have t1 : ¬ q 1 < D := by omega
                have t3 : ¬ X.length < q 1 := by omega
                have z1 : q 1 ≤ 60 := by omega
                have z2 : q 0 ≤ 60 := by omega
                have z3 : q 2 ≤ 60 := by omega
                have u1 : ¬ q 0 < q 1 := by simp only [Nat.reduceAdd] at *; omega
                have u2 : ¬ (q 0 : Int) + (q 2 : Int) < 2 * (q 1 : Int) := by simp only [Nat.reduceAdd] at *; omega
                have u3 : ¬ q 0 + q 2 < 2 * q 1 := by simp only [Nat.reduceAdd] at *; omega
                by_cases hD2 : D ≤ 1 + 1
                · have hb : ((q 1 : Int) != (D : Int)) = false := by rw [l2 hD2]; simp
                  have ht2 : D ≤ 2 := hD2
                  clear l1 l2 l3 l4 l5 k1 k2 k3 k4 k5 m1 m2 m3 m4 m5 hD2
                  go_wp2_with (go_quiet (fail))
                  go_roundw
                  case rel => exact ⟨1 + 1, by omega, by go_num, Ext.trans hej inferInstance⟩
                  case measure => simp [intOf]
                · have ht2 : ¬ D ≤ 2 := hD2
                  clear l1 l2 l3 l4 l5 k1 k2 k3 k4 k5 m1 m2 m3 m4 m5 hD2
                  go_wp2_with (go_quiet (fail))
                  go_roundw
                  case rel => exact ⟨1 + 1, by omega, by go_num, Ext.trans hej inferInstance⟩
                  case measure => simp [intOf]
              · skip
                obtain ⟨l1, l2, l3, l4, l5⟩ := hlaw.out 2
                obtain ⟨k1, k2, k3, k4, k5⟩ := hlaw.out 1
                obtain ⟨m1, m2, m3, m4, m5⟩ := hlaw.out 3
                have t1 : ¬ q 2 < D := by omega
                have t3 : ¬ X.length < q 2 := by omega
                have z1 : q 2 ≤ 60 := by omega
                have z2 : q 1 ≤ 60 := by omega
                have z3 : q 3 ≤ 60 := by omega
                have u1 : ¬ q 1 < q 2 := by simp only [Nat.reduceAdd] at *; omega
                have u2 : ¬ (q 1 : Int) + (q 3 : Int) < 2 * (q 2 : Int) := by simp only [Nat.reduceAdd] at *; omega
                have u3 : ¬ q 1 + q 3 < 2 * q 2 := by simp only [Nat.reduceAdd] at *; omega
                by_cases hD2 : D ≤ 2 + 1
                · have hb : ((q 2 : Int) != (D : Int)) = false := by rw [l2 hD2]; simp
                  have ht2 : D ≤ 3 := hD2
                  clear l1 l2 l3 l4 l5 k1 k2 k3 k4 k5 m1 m2 m3 m4 m5 hD2
                  go_wp2_with (go_quiet (fail))
                  go_roundw
                  case rel => exact ⟨2 + 1, by omega, by go_num, Ext.trans hej inferInstance⟩
                  case measure => simp [intOf]
                · have ht2 : ¬ D ≤ 3 := hD2
                  clear l1 l2 l3 l4 l5 k1 k2 k3 k4 k5 m1 m2 m3 m4 m5 hD2
                  go_wp2_with (go_quiet (fail))
                  go_roundw
                  case rel => exact ⟨2 + 1, by omega, by go_num, Ext.trans hej inferInstance⟩
                  case measure => simp [intOf]
              · skip
                obtain ⟨l1, l2, l3, l4, l5⟩ := hlaw.out 3
                obtain ⟨k1, k2, k3, k4, k5⟩ := hlaw.out 2
                obtain ⟨m1, m2, m3, m4, m5⟩ := hlaw.out 4
                have t1 : ¬ q 3 < D := by omega
                have t3 : ¬ X.length < q 3 := by omega
                have z1 : q 3 ≤ 60 := by omega
                have z2 : q 2 ≤ 60 := by omega
                have z3 : q 4 ≤ 60 := by omega
                have u1 : ¬ q 2 < q 3 := by simp only [Nat.reduceAdd] at *; omega
                have u2 : ¬ (q 2 : Int) + (q 4 : Int) < 2 * (q 3 : Int) := by simp only [Nat.reduceAdd] at *; omega
                have u3 : ¬ q 2 + q 4 < 2 * q 3 := by simp only [Nat.reduceAdd] at *; omega
                by_cases hD2 : D ≤ 3 + 1
                · have hb : ((q 3 : Int) != (D : Int)) = false := by rw [l2 hD2]; simp
                  have ht2 : D ≤ 4 := hD2
                  clear l1 l2 l3 l4 l5 k1 k2 k3 k4 k5 m1 m2 m3 m4 m5 hD2
                  go_wp2_with (go_quiet (fail))
                  go_roundw
                  case rel => exact ⟨3 + 1, by omega, by go_num, Ext.trans hej inferInstance⟩
                  case measure => simp [intOf]
                · have ht2 : ¬ D ≤ 4 := hD2
                  clear l1 l2 l3 l4 l5 k1 k2 k3 k4 k5 m1 m2 m3 m4 m5 hD2
                  go_wp2_with (go_quiet (fail))
                  go_roundw
                  case rel => exact ⟨3 + 1, by omega, by go_num, Ext.trans hej inferInstance⟩
                  case measure => simp [intOf]
              · skip
                obtain ⟨l1, l2, l3, l4, l5⟩ := hlaw.out 4
                obtain ⟨k1, k2, k3, k4, k5⟩ := hlaw.out 3
                obtain ⟨m1, m2, m3, m4, m5⟩ := hlaw.out 5
                have t1 : ¬ q 4 < D := by omega
                have t3 : ¬ X.length < q 4 := by omega
                have z1 : q 4 ≤ 60 := by omega
                have z2 : q 3 ≤ 60 := by omega
                have z3 : q 5 ≤ 60 := by omega
                have u1 : ¬ q 3 < q 4 := by simp only [Nat.reduceAdd] at *; omega
                have u2 : ¬ (q 3 : Int) + (q 5 : Int) < 2 * (q 4 : Int) := by simp only [Nat.reduceAdd] at *; omega
                have u3 : ¬ q 3 + q 5 < 2 * q 4 := by simp only [Nat.reduceAdd] at *; omega
                by_cases hD2 : D ≤ 4 + 1
                · have hb : ((q 4 : Int) != (D : Int)) = false := by rw [l2 hD2]; simp
                  have ht2 : D ≤ 5 := hD2
                  clear l1 l2 l3 l4 l5 k1 k2 k3 k4 k5 m1 m2 m3 m4 m5 hD2
                  go_wp2_with (go_quiet (fail))
                  go_roundw
                  case rel => exact ⟨4 + 1, by omega, by go_num, Ext.trans hej inferInstance⟩
                  case measure => simp [intOf]
                · have ht2 : ¬ D ≤ 5 := hD2
                  clear l1 l2 l3 l4 l5 k1 k2 k3 k4 k5 m1 m2 m3 m4 m5 hD2
                  go_wp2_with (go_quiet (fail))
                  go_roundw
                  case rel => exact ⟨4 + 1, by omega, by go_num, Ext.trans hej inferInstance⟩
                  case measure => simp [intOf]
              · skip
                obtain ⟨l1, l2, l3, l4, l5⟩ := hlaw.out 5
                obtain ⟨k1, k2, k3, k4, k5⟩ := hlaw.out 4
                obtain ⟨m1, m2, m3, m4, m5⟩ := hlaw.out 6
                have t1 : ¬ q 5 < D := by omega
                have t3 : ¬ X.length < q 5 := by omega
                have z1 : q 5 ≤ 60 := by omega
                have z2 : q 4 ≤ 60 := by omega
                have z3 : q 6 ≤ 60 := by omega
                have u1 : ¬ q 4 < q 5 := by simp only [Nat.reduceAdd] at *; omega
                have u2 : ¬ (q 4 : Int) + (q 6 : Int) < 2 * (q 5 : Int) := by simp only [Nat.reduceAdd] at *; omega
                have u3 : ¬ q 4 + q 6 < 2 * q 5 := by simp only [Nat.reduceAdd] at *; omega
                by_cases hD2 : D ≤ 5 + 1
                · have hb : ((q 5 : Int) != (D : Int)) = false := by rw [l2 hD2]; simp
                  have ht2 : D ≤ 6 := hD2
                  clear l1 l2 l3 l4 l5 k1 k2 k3 k4 k5 m1 m2 m3 m4 m5 hD2
                  go_wp2_with (go_quiet (fail))
                  go_roundw
                  case rel => exact ⟨5 + 1, by omega, by go_num, Ext.trans hej inferInstance⟩
                  case measure => simp [intOf]
                · have ht2 : ¬ D ≤ 6 := hD2
                  clear l1 l2 l3 l4 l5 k1 k2 k3 k4 k5 m1 m2 m3 m4 m5 hD2
                  go_wp2_with (go_quiet (fail))
                  go_roundw
                  case rel => exact ⟨5 + 1, by omega, by go_num, Ext.trans hej inferInstance⟩
                  case measure => simp [intOf]
            · go_wp2_with fail
              go_ret
              exact ⟨ret_bool (by simp), Ext.trans e1 (Ext.trans g5 e5j)⟩
end Go.Proofs.Ytmabejallkjjmaa
