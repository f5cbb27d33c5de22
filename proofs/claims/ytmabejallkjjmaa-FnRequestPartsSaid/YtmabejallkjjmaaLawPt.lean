/- 'laws.FnRequestParts': for every code the law returns true. -/
import Derived.Test.YtmabejallkjjmaaPtS
import Derived.Test.YtmabejallkjjmaaPtD
import Derived.Test.YtmabejallkjjmaaGrM
import Derived.Test.YtmabejallkjjmaaCut
namespace Go.Proofs.Ytmabejallkjjmaa
open Go.RowKit

def luR (n : Int) (X : List Int) : List Int := if seqOk n X then luUs X X.length else []
set_option maxHeartbeats 800000 in
theorem implLu_any {vX : Value} {n : Int} {X : List Int} {w0 w : World} [Ext w0 w] (hX : IsInts w0 vX X) :
    Calls Try.prog 43 #[.int .i64 n, vX] w fun e w' => ∃ u, e = .returned (.tuple #[u, .bool (seqOk n X)]) ∧ IsInts w' u (luR n X) ∧ Ext w w' := by
  have hX' := hX
  obtain ⟨dx, mx, rfl, lx⟩ := hX.form
  cases hp : seqOk n X with
  | false =>
    have hv := hid (show luR n X = [] by rw [luR, hp]; rfl)
    replace hp := hid hp
    go_enter Try.func43, Try.ntmps43
    go_wp2_with fail
    with_reducible refine (implRq_any (w0 := w0) hX').mono ?_
    rw [hp.out]
    rintro e w2 ⟨rfl, e2⟩
    go_wp2_with fail
    go_ret2
    rw [hv.out]
    exact ⟨_, rfl, ints_nil _ _ _, e2⟩
  | true =>
    have hv := hid (show luR n X = luUs X X.length by rw [luR, hp]; rfl)
    have hl : X.length ≤ 60 := (seqOk_iff.1 hp).2.1
    replace hp := hid hp
    go_enter Try.func43, Try.ntmps43
    go_wp2_with fail
    with_reducible refine (implRq_any (w0 := w0) hX').mono ?_
    rw [hp.out]
    rintro e w2 ⟨rfl, e2⟩
    have e02 : Ext w0 w2 := Ext.trans ‹Ext w0 w› e2
    go_wp2_with fail
    with_reducible refine (lastUses_any (w0 := w0) (w := w2) hX' (by omega)).mono ?_
    rintro e w3 ⟨d3, m3, rfl, own3, e3⟩
    have hr : IsInts w3 (.slice d3 X.length m3) (luUs X X.length) := own3.readsN (luUs_len X X.length) (by omega) (luUs_i64 (by omega))
    go_wp2_with fail
    go_ret2
    rw [hv.out]
    exact ⟨_, rfl, hr, Ext.trans e2 e3⟩

set_option maxHeartbeats 6400000 in
set_option maxRecDepth 100000 in
theorem lawFnRequestParts_any {v : Value} {nb : Nat} {w : World} (hc : IsCode w v nb) :
    Calls Try.prog 6 #[v] w fun e w' => e = .returned (.bool true) ∧ Ext w w' := by
  have hc' := hc
  obtain ⟨ac, cc, rfl⟩ := hc.bytes.form
  by_cases hbig : 65536 < nb
  · have hd := hid (decide_eq_true hbig)
    go_enter Try.func6, Try.ntmps6
    go_wp2_with fail
    refine (vBig_l hc'.bytes).mono ?_
    rw [hd.out]
    rintro e w1 ⟨rfl, rfl⟩
    go_wp2_with fail
    go_ret
    exact ⟨rfl, Ext.refl _⟩
  · have hd := hid (decide_eq_false hbig)
    have hnb : nb ≤ 65536 := by omega
    have cz : Ext w w := Ext.refl _
    go_enter Try.func6, Try.ntmps6
    go_wp2_with fail
    refine (vBig_l hc'.bytes).mono ?_
    rw [hd.out]
    rintro e wz ⟨rfl, rfl⟩
    go_wp2_with fail
    refine (drawJn_any (w0 := w) (w := w) hc'.bytes).mono ?_
    rintro e w1 ⟨n1, vA, vB, A, B, rfl, hn1, hA, hB, hAl, hBl, e1⟩
    replace cz := Ext.trans cz e1
    have c1 : Ext w1 w1 := Ext.refl _
    obtain ⟨dA, mA, rfl, lA⟩ := hA.form
    obtain ⟨dB, mB, rfl, lB⟩ := hB.form
    have hn1b : -100 ≤ n1 ∧ n1 ≤ 100 := by omega
    obtain ⟨Q1, hQ1⟩ : ∃ q, q = jnB n1 A B := ⟨_, rfl⟩
    replace hQ1 := hid hQ1
    obtain ⟨LJ, hLJ⟩ : ∃ q, q = jnR n1 A B := ⟨_, rfl⟩
    replace hLJ := hid hLJ
    obtain ⟨LW, hLW⟩ : ∃ q, q = wvR n1 A B := ⟨_, rfl⟩
    replace hLW := hid hLW
    go_wp2_with fail
    with_reducible refine (implJn_any (w0 := w1) (w := w1) (n := n1) hA hB).mono ?_
    rw [← hQ1.out, ← hLJ.out]
    rintro e w2 ⟨uJ1, rfl, hJ1, e2⟩
    replace cz := Ext.trans cz e2
    replace c1 := Ext.trans c1 e2
    have c2 : Ext w2 w2 := Ext.refl _
    obtain ⟨dJ1, mJ1, rfl, lJ1⟩ := hJ1.form
    go_wp2_with fail
    with_reducible refine (implWv_any (w0 := w1) (w := w2) (n := n1) hA hB).mono ?_
    rw [← hQ1.out, ← hLW.out]
    rintro e w3 ⟨uW1, rfl, hW1, e3⟩
    replace cz := Ext.trans cz e3
    replace c1 := Ext.trans c1 e3
    replace c2 := Ext.trans c2 e3
    have c3 : Ext w3 w3 := Ext.refl _
    obtain ⟨dW1, mW1, rfl, lW1⟩ := hW1.form
    go_wp2_with fail
    with_reducible refine (specJn_any (w0 := w1) (w := w3) (n := n1) hA hB).mono ?_
    rw [← hQ1.out, ← hLJ.out]
    rintro e w4 ⟨uJ2, rfl, hJ2, e4⟩
    replace cz := Ext.trans cz e4
    replace c1 := Ext.trans c1 e4
    replace c2 := Ext.trans c2 e4
    replace c3 := Ext.trans c3 e4
    have c4 : Ext w4 w4 := Ext.refl _
    obtain ⟨dJ2, mJ2, rfl, lJ2⟩ := hJ2.form
    go_wp2_with fail
    with_reducible refine (specWv_any (w0 := w1) (w := w4) (n := n1) hA hB).mono ?_
    rw [← hQ1.out, ← hLW.out]
    rintro e w5 ⟨uW2, rfl, hW2, e5⟩
    replace cz := Ext.trans cz e5
    replace c1 := Ext.trans c1 e5
    replace c2 := Ext.trans c2 e5
    replace c3 := Ext.trans c3 e5
    replace c4 := Ext.trans c4 e5
    have c5 : Ext w5 w5 := Ext.refl _
    obtain ⟨dW2, mW2, rfl, lW2⟩ := hW2.form
    go_wp2_with fail
    refine (vCut_any (w0 := w) (w := w5) hc' (n := 1) (by omega) hnb).mono ?_
    rintro e w6 ⟨vc1, nc1, rfl, hcc1, e6⟩
    replace cz := Ext.trans cz e6
    replace c1 := Ext.trans c1 e6
    replace c2 := Ext.trans c2 e6
    replace c3 := Ext.trans c3 e6
    replace c4 := Ext.trans c4 e6
    replace c5 := Ext.trans c5 e6
    have c6 : Ext w6 w6 := Ext.refl _
    obtain ⟨ac1, mc1, rfl⟩ := hcc1.form
    go_wp2_with fail
    refine (drawPj_any (w0 := w6) (w := w6) hcc1).mono ?_
    rintro e w7 ⟨n2, vX, vT, X, T, rfl, hn2, hX, hT, hXl, hTl, e7⟩
    replace cz := Ext.trans cz e7
    replace c1 := Ext.trans c1 e7
    replace c2 := Ext.trans c2 e7
    replace c3 := Ext.trans c3 e7
    replace c4 := Ext.trans c4 e7
    replace c5 := Ext.trans c5 e7
    replace c6 := Ext.trans c6 e7
    have c7 : Ext w7 w7 := Ext.refl _
    obtain ⟨dX, mX, rfl, lX⟩ := hX.form
    obtain ⟨dT, mT, rfl, lT⟩ := hT.form
    have hn2b : -100 ≤ n2 ∧ n2 ≤ 100 := by omega
    obtain ⟨Q2, hQ2⟩ : ∃ q, q = pjB n2 X T := ⟨_, rfl⟩
    replace hQ2 := hid hQ2
    obtain ⟨LP, hLP⟩ : ∃ q, q = pjR n2 X T := ⟨_, rfl⟩
    replace hLP := hid hLP
    go_wp2_with fail
    with_reducible refine (implPj_any (w0 := w7) (w := w7) (n := n2) hX hT).mono ?_
    rw [← hQ2.out, ← hLP.out]
    rintro e w8 ⟨uP1, rfl, hP1, e8⟩
    replace cz := Ext.trans cz e8
    replace c1 := Ext.trans c1 e8
    replace c2 := Ext.trans c2 e8
    replace c3 := Ext.trans c3 e8
    replace c4 := Ext.trans c4 e8
    replace c5 := Ext.trans c5 e8
    replace c6 := Ext.trans c6 e8
    replace c7 := Ext.trans c7 e8
    have c8 : Ext w8 w8 := Ext.refl _
    obtain ⟨dP1, mP1, rfl, lP1⟩ := hP1.form
    go_wp2_with fail
    with_reducible refine (specPj_any (w0 := w7) (w := w8) (n := n2) hX hT).mono ?_
    rw [← hQ2.out, ← hLP.out]
    rintro e w9 ⟨uP2, rfl, hP2, e9⟩
    replace cz := Ext.trans cz e9
    replace c1 := Ext.trans c1 e9
    replace c2 := Ext.trans c2 e9
    replace c3 := Ext.trans c3 e9
    replace c4 := Ext.trans c4 e9
    replace c5 := Ext.trans c5 e9
    replace c6 := Ext.trans c6 e9
    replace c7 := Ext.trans c7 e9
    replace c8 := Ext.trans c8 e9
    have c9 : Ext w9 w9 := Ext.refl _
    obtain ⟨dP2, mP2, rfl, lP2⟩ := hP2.form
    go_wp2_with fail
    refine (vCut_any (w0 := w) (w := w9) hc' (n := 2) (by omega) hnb).mono ?_
    rintro e w10 ⟨vc2, nc2, rfl, hcc2, e10⟩
    replace cz := Ext.trans cz e10
    replace c1 := Ext.trans c1 e10
    replace c2 := Ext.trans c2 e10
    replace c3 := Ext.trans c3 e10
    replace c4 := Ext.trans c4 e10
    replace c5 := Ext.trans c5 e10
    replace c6 := Ext.trans c6 e10
    replace c7 := Ext.trans c7 e10
    replace c8 := Ext.trans c8 e10
    replace c9 := Ext.trans c9 e10
    have c10 : Ext w10 w10 := Ext.refl _
    obtain ⟨ac2, mc2, rfl⟩ := hcc2.form
    go_wp2_with fail
    refine (drawRm_any (w0 := w10) (w := w10) hcc2).mono ?_
    rintro e w11 ⟨n3, vY, vU, Y, U, rfl, hn3, hY, hU, hYl, hUl, e11⟩
    replace cz := Ext.trans cz e11
    replace c1 := Ext.trans c1 e11
    replace c2 := Ext.trans c2 e11
    replace c3 := Ext.trans c3 e11
    replace c4 := Ext.trans c4 e11
    replace c5 := Ext.trans c5 e11
    replace c6 := Ext.trans c6 e11
    replace c7 := Ext.trans c7 e11
    replace c8 := Ext.trans c8 e11
    replace c9 := Ext.trans c9 e11
    replace c10 := Ext.trans c10 e11
    have c11 : Ext w11 w11 := Ext.refl _
    obtain ⟨dY, mY, rfl, lY⟩ := hY.form
    obtain ⟨dU, mU, rfl, lU⟩ := hU.form
    have hn3b : -100 ≤ n3 ∧ n3 ≤ 100 := by omega
    obtain ⟨Q3, hQ3⟩ : ∃ q, q = rmB n3 Y U := ⟨_, rfl⟩
    replace hQ3 := hid hQ3
    obtain ⟨LR, hLR⟩ : ∃ q, q = rmR n3 Y U := ⟨_, rfl⟩
    replace hLR := hid hLR
    go_wp2_with fail
    with_reducible refine (implRm_any (w0 := w11) (w := w11) (n := n3) hY hU).mono ?_
    rw [← hQ3.out, ← hLR.out]
    rintro e w12 ⟨uR1, rfl, hR1, e12⟩
    replace cz := Ext.trans cz e12
    replace c1 := Ext.trans c1 e12
    replace c2 := Ext.trans c2 e12
    replace c3 := Ext.trans c3 e12
    replace c4 := Ext.trans c4 e12
    replace c5 := Ext.trans c5 e12
    replace c6 := Ext.trans c6 e12
    replace c7 := Ext.trans c7 e12
    replace c8 := Ext.trans c8 e12
    replace c9 := Ext.trans c9 e12
    replace c10 := Ext.trans c10 e12
    replace c11 := Ext.trans c11 e12
    have c12 : Ext w12 w12 := Ext.refl _
    obtain ⟨dR1, mR1, rfl, lR1⟩ := hR1.form
    go_wp2_with fail
    with_reducible refine (specRm_any (w0 := w11) (w := w12) (n := n3) hY hU).mono ?_
    rw [← hQ3.out, ← hLR.out]
    rintro e w13 ⟨uR2, rfl, hR2, e13⟩
    replace cz := Ext.trans cz e13
    replace c1 := Ext.trans c1 e13
    replace c2 := Ext.trans c2 e13
    replace c3 := Ext.trans c3 e13
    replace c4 := Ext.trans c4 e13
    replace c5 := Ext.trans c5 e13
    replace c6 := Ext.trans c6 e13
    replace c7 := Ext.trans c7 e13
    replace c8 := Ext.trans c8 e13
    replace c9 := Ext.trans c9 e13
    replace c10 := Ext.trans c10 e13
    replace c11 := Ext.trans c11 e13
    replace c12 := Ext.trans c12 e13
    have c13 : Ext w13 w13 := Ext.refl _
    obtain ⟨dR2, mR2, rfl, lR2⟩ := hR2.form
    go_wp2_with fail
    refine (vCut_any (w0 := w) (w := w13) hc' (n := 3) (by omega) hnb).mono ?_
    rintro e w14 ⟨vc3, nc3, rfl, hcc3, e14⟩
    replace cz := Ext.trans cz e14
    replace c1 := Ext.trans c1 e14
    replace c2 := Ext.trans c2 e14
    replace c3 := Ext.trans c3 e14
    replace c4 := Ext.trans c4 e14
    replace c5 := Ext.trans c5 e14
    replace c6 := Ext.trans c6 e14
    replace c7 := Ext.trans c7 e14
    replace c8 := Ext.trans c8 e14
    replace c9 := Ext.trans c9 e14
    replace c10 := Ext.trans c10 e14
    replace c11 := Ext.trans c11 e14
    replace c12 := Ext.trans c12 e14
    replace c13 := Ext.trans c13 e14
    have c14 : Ext w14 w14 := Ext.refl _
    obtain ⟨ac3, mc3, rfl⟩ := hcc3.form
    go_wp2_with fail
    refine (drawWn_any (w0 := w14) (w := w14) hcc3).mono ?_
    rintro e w15 ⟨n4, vZ, Z, k4, rfl, hn4, hZ, hZl, hk4, e15⟩
    replace cz := Ext.trans cz e15
    replace c1 := Ext.trans c1 e15
    replace c2 := Ext.trans c2 e15
    replace c3 := Ext.trans c3 e15
    replace c4 := Ext.trans c4 e15
    replace c5 := Ext.trans c5 e15
    replace c6 := Ext.trans c6 e15
    replace c7 := Ext.trans c7 e15
    replace c8 := Ext.trans c8 e15
    replace c9 := Ext.trans c9 e15
    replace c10 := Ext.trans c10 e15
    replace c11 := Ext.trans c11 e15
    replace c12 := Ext.trans c12 e15
    replace c13 := Ext.trans c13 e15
    replace c14 := Ext.trans c14 e15
    have c15 : Ext w15 w15 := Ext.refl _
    obtain ⟨dZ, mZ, rfl, lZ⟩ := hZ.form
    have hk4i : I64 k4 := by unfold I64; omega
    obtain ⟨Q4, hQ4⟩ : ∃ q, q = wnB n4 Z k4 := ⟨_, rfl⟩
    replace hQ4 := hid hQ4
    obtain ⟨LZ, hLZ⟩ : ∃ q, q = wnR n4 Z k4 := ⟨_, rfl⟩
    replace hLZ := hid hLZ
    go_wp2_with fail
    with_reducible refine (implWn_any (w0 := w15) (w := w15) (n := n4) hZ hk4i).mono ?_
    rw [← hQ4.out, ← hLZ.out]
    rintro e w16 ⟨uZ1, rfl, hZ1, e16⟩
    replace cz := Ext.trans cz e16
    replace c1 := Ext.trans c1 e16
    replace c2 := Ext.trans c2 e16
    replace c3 := Ext.trans c3 e16
    replace c4 := Ext.trans c4 e16
    replace c5 := Ext.trans c5 e16
    replace c6 := Ext.trans c6 e16
    replace c7 := Ext.trans c7 e16
    replace c8 := Ext.trans c8 e16
    replace c9 := Ext.trans c9 e16
    replace c10 := Ext.trans c10 e16
    replace c11 := Ext.trans c11 e16
    replace c12 := Ext.trans c12 e16
    replace c13 := Ext.trans c13 e16
    replace c14 := Ext.trans c14 e16
    replace c15 := Ext.trans c15 e16
    have c16 : Ext w16 w16 := Ext.refl _
    obtain ⟨dZ1, mZ1, rfl, lZ1⟩ := hZ1.form
    go_wp2_with fail
    with_reducible refine (specWn_any (w0 := w15) (w := w16) (n := n4) hZ hk4i).mono ?_
    rw [← hQ4.out, ← hLZ.out]
    rintro e w17 ⟨uZ2, rfl, hZ2, e17⟩
    replace cz := Ext.trans cz e17
    replace c1 := Ext.trans c1 e17
    replace c2 := Ext.trans c2 e17
    replace c3 := Ext.trans c3 e17
    replace c4 := Ext.trans c4 e17
    replace c5 := Ext.trans c5 e17
    replace c6 := Ext.trans c6 e17
    replace c7 := Ext.trans c7 e17
    replace c8 := Ext.trans c8 e17
    replace c9 := Ext.trans c9 e17
    replace c10 := Ext.trans c10 e17
    replace c11 := Ext.trans c11 e17
    replace c12 := Ext.trans c12 e17
    replace c13 := Ext.trans c13 e17
    replace c14 := Ext.trans c14 e17
    replace c15 := Ext.trans c15 e17
    replace c16 := Ext.trans c16 e17
    have c17 : Ext w17 w17 := Ext.refl _
    obtain ⟨dZ2, mZ2, rfl, lZ2⟩ := hZ2.form
    have qQ1 : (Q1 != Q1) = false := by simp
    have qQ2 : (Q2 != Q2) = false := by simp
    have qQ3 : (Q3 != Q3) = false := by simp
    have qQ4 : (Q4 != Q4) = false := by simp
    have hJ1 := hJ1.ext (e := c2)
    have hW1 := hW1.ext (e := c3)
    have hJ2 := hJ2.ext (e := c4)
    have hW2 := hW2.ext (e := c5)
    have hP1 := hP1.ext (e := c8)
    have hP2 := hP2.ext (e := c9)
    have hR1 := hR1.ext (e := c12)
    have hR2 := hR2.ext (e := c13)
    have hZ1 := hZ1.ext (e := c16)
    have hZ2 := hZ2.ext (e := c17)
    have hA := hA.ext (e := c1)
    have hB := hB.ext (e := c1)
    have hX := hX.ext (e := c7)
    have hY := hY.ext (e := c11)
    clear c1 c2 c3 c4 c5 c6 c7 c8 c9 c10 c11 c12 c13 c14 c15 c16
    go_upto_region 17 with fail
    go_cut [165] (fun cv wx => cv = .bool false ∧ wx = w17)
    case first =>
      go_wp2_with fail
      go_meet
      exact ⟨rfl, rfl⟩
    case rest => as_aux_lemma =>
      obtain ⟨rfl, hwc⟩ := hcut
      have hwc := hwc.symm
      subst hwc
      go_wp2_with fail
      with_reducible refine (vInts_same (w0 := w17) (w := w17) hJ1 hJ2).mono ?_
      rintro e w18 ⟨rfl, e18⟩
      replace cz := Ext.trans cz e18
      replace c17 := Ext.trans c17 e18
      have c18 : Ext w18 w18 := Ext.refl _
      clear c18
      go_wp2_with fail
      with_reducible refine (vInts_same (w0 := w17) (w := w18) hW1 hW2).mono ?_
      rintro e w19 ⟨rfl, e19⟩
      replace cz := Ext.trans cz e19
      replace c17 := Ext.trans c17 e19
      have c19 : Ext w19 w19 := Ext.refl _
      clear c19
      go_wp2_with fail
      with_reducible refine (vInts_same (w0 := w17) (w := w19) hP1 hP2).mono ?_
      rintro e w20 ⟨rfl, e20⟩
      replace cz := Ext.trans cz e20
      replace c17 := Ext.trans c17 e20
      have c20 : Ext w20 w20 := Ext.refl _
      clear c20
      go_wp2_with fail
      with_reducible refine (vInts_same (w0 := w17) (w := w20) hR1 hR2).mono ?_
      rintro e w21 ⟨rfl, e21⟩
      replace cz := Ext.trans cz e21
      replace c17 := Ext.trans c17 e21
      have c21 : Ext w21 w21 := Ext.refl _
      clear c21
      go_wp2_with fail
      with_reducible refine (vInts_same (w0 := w17) (w := w21) hZ1 hZ2).mono ?_
      rintro e w22 ⟨rfl, e22⟩
      replace cz := Ext.trans cz e22
      replace c17 := Ext.trans c17 e22
      have c22 : Ext w22 w22 := Ext.refl _
      clear c22
      clear hJ2 hW2 hP2 hR2 hZ2 qQ1 qQ2 qQ3 qQ4
      go_upto_if 194 with fail
      go_cut [35] (fun _ wx => Ext w22 wx)
      case first =>
        have ecx : Ext w22 w22 := Ext.refl _
        cases Q1 with
        | false =>
          go_wp2_with fail
          go_meet
          exact ecx
        | true =>
          have hjb : jnB n1 A B = true := hQ1.out.symm
          have hLJ2 : LJ = A ++ B := by rw [hLJ.out, jnR, hjb]; rfl
          have hLW2 : LW = wvL A B := by rw [hLW.out, wvR, hjb]; rfl
          have hcn : cnR n1 LW = cnR n1 LJ := by
            obtain ⟨o1, o2⟩ := join_ok hjb
            rw [hLJ2, hLW2, cnR, cnR, o1, o2]
            exact cn_weave _ _ _
          have hlen : ((LJ.length : Int) != (A.length : Int) + (B.length : Int)) = false := by rw [hLJ2, List.length_append]; simp
          replace hcn := hid hcn
          replace hLJ2 := hid hLJ2
          replace hLW2 := hid hLW2
          replace hjb := hid hjb
          obtain ⟨LC, hLC⟩ : ∃ q, q = cnR n1 LJ := ⟨_, rfl⟩
          rw [← hLC] at hcn
          replace hLC := hid hLC
          go_wp2_with fail
          with_reducible refine (implCn_any (w0 := w17) (w := w22) hJ1 hn1b).mono ?_
          rw [← hLC.out]
          rintro e wa ⟨ua, rfl, hCa, ea⟩
          obtain ⟨da, ma, rfl, la⟩ := hCa.form
          have c17 := Ext.trans c17 ea
          go_wp2_with fail
          with_reducible refine (implCn_any (w0 := w17) (w := wa) hW1 hn1b).mono ?_
          rw [hcn.out]
          rintro e wb ⟨ub, rfl, hCb, eb⟩
          obtain ⟨db, mb, rfl, lb⟩ := hCb.form
          have hCa := hCa.ext (w' := wb)
          go_wp2_with fail
          with_reducible refine (vInts_same (w0 := wb) (w := wb) hCa hCb).mono ?_
          rintro e wc ⟨rfl, ec⟩
          go_wp2_with fail
          go_meet
          exact Ext.trans ea (Ext.trans eb ec)
      case rest => as_aux_lemma =>
        obtain ⟨wd, rfl⟩ : ∃ y : World, y = wc := ⟨_, rfl⟩
        have ed : Ext w22 wd := hcut
        have cd : Ext w17 wd := Ext.trans c17 ed
        go_upto_if 221 with fail
        go_cut [39] (fun _ wx => Ext wd wx)
        case first =>
          have ecx : Ext wd wd := Ext.refl _
          cases Q3 with
          | false =>
            go_wp2_with fail
            go_meet
            exact ecx
          | true =>
            have hrb : rmB n3 Y U = true := hQ3.out.symm
            have hLR2 : LR = rmL Y U := by rw [hLR.out, rmR, hrb]; rfl
            have hlu : luR n3 LR = luR n3 Y := by
              have o1 := rm_ok hrb
              have o2 : seqOk n3 Y = true := by unfold rmB at hrb; rw [Bool.and_eq_true] at hrb; exact hrb.1
              rw [hLR2, luR, luR, o1, o2]
              exact lu_rename hrb
            replace hLR2 := hid hLR2
            replace hrb := hid hrb
            obtain ⟨LU, hLU⟩ : ∃ q, q = luR n3 Y := ⟨_, rfl⟩
            rw [← hLU] at hlu
            replace hLU := hid hLU
            replace hlu := hid hlu
            go_wp2_with fail
            with_reducible refine (implLu_any (n := n3) (w0 := w17) (w := wd) hY).mono ?_
            rw [← hLU.out]
            rintro e wa ⟨ua, rfl, hCa, ea⟩
            obtain ⟨da, ma, rfl, la⟩ := hCa.form
            have cda := Ext.trans cd ea
            go_wp2_with fail
            with_reducible refine (implLu_any (n := n3) (w0 := w17) (w := wa) hR1).mono ?_
            rw [hlu.out]
            rintro e wb ⟨ub, rfl, hCb, eb⟩
            obtain ⟨db, mb, rfl, lb⟩ := hCb.form
            have hCa := hCa.ext (w' := wb)
            go_wp2_with fail
            with_reducible refine (vInts_same (w0 := wb) (w := wb) hCa hCb).mono ?_
            rintro e wc' ⟨rfl, ec⟩
            go_wp2_with fail
            go_meet
            exact Ext.trans ea (Ext.trans eb ec)
        case rest => as_aux_lemma =>
          obtain ⟨wg, rfl⟩ : ∃ y : World, y = wc := ⟨_, rfl⟩
          have eg : Ext wd wg := hcut
          have cg : Ext w17 wg := Ext.trans cd eg
          have ceg : Ext w22 wg := Ext.trans ed eg
          have hwin : LZ.length ≤ 60 ∧ ∀ i, i < LZ.length → 1 ≤ nth LZ i ∧ nth LZ i ≤ k4 ∧ nth LZ i ≤ (i : Int) + 1 := by
            cases Q4 with
            | false =>
              have hz : LZ = [] := by rw [hLZ.out, wnR, ← hQ4.out]; rfl
              rw [hz]
              exact ⟨by simp, fun i hi => by simp at hi⟩
            | true =>
              have hwb : wnB n4 Z k4 = true := hQ4.out.symm
              have hz : LZ = wnTo Z k4 Z.length := by rw [hLZ.out, wnR, hwb]; rfl
              unfold wnB at hwb
              rw [Bool.and_eq_true, inB_true] at hwb
              have h60 := (seqOk_iff.1 hwb.1).2.1
              rw [hz, wnTo_len]
              exact ⟨h60, fun i hi => by rw [wnTo_at hi]; exact wnAt_in hwb.2.1 hi⟩
          obtain ⟨hz60, hwin⟩ := hwin
          replace hwin := hid hwin
          go_upto_region 31 with fail
          go_cut [250] (fun cv wx => cv = .bool false ∧ Ext wg wx)
          case first =>
            have ecx : Ext wg wg := Ext.refl _
            cases Q2 with
            | false =>
              go_wp2_with fail
              go_meet
              exact ⟨rfl, ecx⟩
            | true =>
              have hpb : pjB n2 X T = true := hQ2.out.symm
              have hLP2 : LP = pjL X T := by rw [hLP.out, pjR, hpb]; rfl
              by_cases hl : (T.length : Int) = n2
              · have hb : ((T.length : Int) == n2) = true := by simp [hl]
                have hLPX : LP = X := by rw [hLP2]; exact pj_all hpb hl
                have hPX : IsInts w17 (.slice dP1 LP.length mP1) X := by have h := hP1; rw [hLPX] at h ⊢; exact h
                replace hl := hid hl
                replace hLP2 := hid hLP2
                replace hpb := hid hpb
                replace hLPX := hid hLPX
                go_wp2_with fail
                with_reducible refine (vInts_same (w0 := w17) (w := wg) hPX hX).mono ?_
                rintro e wh ⟨rfl, eh⟩
                go_wp2_with fail
                go_meet
                exact ⟨rfl, eh⟩
              · have hb : ((T.length : Int) == n2) = false := by simp [hl]
                replace hl := hid hl
                replace hLP2 := hid hLP2
                replace hpb := hid hpb
                go_wp2_with fail
                go_meet
                exact ⟨rfl, ecx⟩
          case rest => as_aux_lemma =>
            obtain ⟨rfl, ehw⟩ := hcut
            obtain ⟨wh, rfl⟩ : ∃ y : World, y = wc := ⟨_, rfl⟩
            have ch := Ext.trans cg ehw
            have ceh := Ext.trans ceg ehw
            clear hX hY hA hB hJ1 hW1 hP1 hR1
            go_wp2_with fail
            go_loopw [43] (fun iv wr => ∃ i : Nat, i ≤ LZ.length ∧ iv = .int .i64 i ∧ Ext wh wr) (fun iv _ => LZ.length - (intOf iv).toNat)
            case atStart => exact ⟨0, by omega, rfl, Ext.refl _⟩
            case round =>
              obtain ⟨i, hi, rfl, hei⟩ := hrel
              obtain ⟨wj, rfl⟩ : ∃ y : World, y = wr := ⟨_, rfl⟩
              have cj : Ext w17 wj := Ext.trans ch hei
              by_cases hlt : i < LZ.length
              · obtain ⟨bz, oz, hdz, hcz⟩ := hZ1.at (w' := wj) hlt
                cases hdz
                obtain ⟨s1, s2, s3⟩ := hwin.out i hlt
                obtain ⟨y, hy⟩ : ∃ y, y = nth LZ i := ⟨_, rfl⟩
                rw [← hy] at hcz s1 s2 s3
                replace hy := hid hy
                have t1 : decide (y < 1) = false := decide_eq_false (by omega)
                have t2 : decide (y > k4) = false := decide_eq_false (by omega)
                have t3 : decide (y > (i : Int) + 1) = false := decide_eq_false (by omega)
                go_wp2_with fail
                go_roundw
                case rel => exact ⟨i + 1, by omega, by go_num, hei⟩
                case measure => simp [intOf]; omega
              · go_wp2_with fail
                go_ret
                exact ⟨rfl, Ext.trans cz (Ext.trans ceh hei)⟩
end Go.Proofs.Ytmabejallkjjmaa
