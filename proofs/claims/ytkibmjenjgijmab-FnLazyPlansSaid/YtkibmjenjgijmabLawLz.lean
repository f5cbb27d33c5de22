/- 'laws.FnLazyPlans': for every code the law returns true. -/
import Derived.Test.YtkibmjenjgijmabLzK
import Derived.Test.YtkibmjenjgijmabRlaw
namespace Go.Proofs.Ytkibmjenjgijmab
open Go.RowKit

set_option maxHeartbeats 400000 in
set_option maxRecDepth 100000 in
theorem rHasL_any {v : Value} {xs : List Int} {x : Int} {w0 w : World} [Ext w0 w] (hx : IsInts w0 v xs) :
    Calls Try.prog 22 #[v, .int .i64 x] w fun e w' => e = .returned (.bool (hasB xs x)) ∧ w = w' := by
  obtain ⟨a, c, rfl, la⟩ := hx.form
  go_enter Try.func22, Try.ntmps22
  go_wp2
  go_loop [5] (fun i => ∃ k : Nat, k ≤ xs.length ∧ i = .int .i64 k ∧ Hid (∀ j, j < k → nth xs j ≠ x)) (fun i => xs.length - (intOf i).toNat)
  case atStart => exact ⟨0, by omega, rfl, by intro j hj; omega⟩
  case round =>
    obtain ⟨k, hk, rfl, hno⟩ := hrel
    by_cases hlt : k < xs.length
    · obtain ⟨b, o, rfl, hc⟩ := hx.at (w' := w) hlt
      by_cases he : nth xs k = x
      · have hr := hid (show hasB xs x = true from hasB_true.2 (mem_iff_nth.2 ⟨k, hlt, he⟩))
        have hb : (nth xs k == x) = true := by simp [he]
        replace he := hid he
        go_wp2
        go_ret
        exact ⟨ret_bool hr.out.symm, rfl⟩
      · have hb : (nth xs k == x) = false := by simpa using he
        replace he := hid he
        go_wp2
        go_round
        case rel =>
          refine ⟨k + 1, by omega, by go_num, fun j hj => ?_⟩
          by_cases e : j = k
          · rw [e]; exact he.out
          · exact hno.out j (by omega)
        case measure => simp [intOf]; omega
    · have hr := hid (show hasB xs x = false from hasB_false.2 fun h => by
        obtain ⟨j, hj, e⟩ := mem_iff_nth.1 h
        exact hno.out j (by omega) e)
      go_wp2
      go_ret
      exact ⟨ret_bool hr.out.symm, rfl⟩


set_option maxHeartbeats 3200000 in
set_option maxRecDepth 100000 in
theorem lawFnLazyPlans_any {v : Value} {nb : Nat} {w : World} (hc : IsBytes w v nb) :
    Calls Try.prog 5 #[v] w fun e w' => e = .returned (.bool true) ∧ Ext w w' := by
  have hc' := hc
  obtain ⟨ac, cc, rfl⟩ := hc.form
  by_cases hbig : 65536 < nb
  · have hd := hid (decide_eq_true hbig)
    go_enter Try.func5, Try.ntmps5
    go_wp2_with fail
    refine (rBig_any hc').mono ?_
    rw [hd.out]
    rintro e w1 ⟨rfl, rfl⟩
    go_wp2_with fail
    go_ret
    exact ⟨rfl, Ext.refl _⟩
  · have hd := hid (decide_eq_false hbig)
    go_enter Try.func5, Try.ntmps5
    go_wp2_with fail
    refine (rBig_any hc').mono ?_
    rw [hd.out]
    rintro e w1 ⟨rfl, rfl⟩
    go_wp2_with fail
    refine (drawLP_any (w0 := w) (w := w) hc').mono ?_
    rintro e w1 ⟨k, n, vX, vP, X, P, rfl, hk, hn, hX, hP, hXl, hPl, e1⟩
    obtain ⟨dX, mX, rfl, lX⟩ := hX.form
    obtain ⟨dP, mP, rfl, lP⟩ := hP.form
    have hki : I64 k := by unfold I64; omega
    have hnb : -100 ≤ n ∧ n ≤ 100 := by omega
    obtain ⟨Q, hQ⟩ : ∃ q, q = pcB k n X P := ⟨_, rfl⟩
    obtain ⟨L, hL⟩ : ∃ q, q = lzR k n X P := ⟨_, rfl⟩
    obtain ⟨A, hA⟩ : ∃ q, q = pcC k n X P := ⟨_, rfl⟩
    replace hQ := hid hQ
    replace hL := hid hL
    replace hA := hid hA
    have q1 : (Q != Q) = false := by simp
    go_wp2_with fail
    with_reducible refine (implLP_any (w0 := w1) (w := w1) hX hP hki hnb).mono ?_
    rw [← hQ.out, ← hL.out]
    rintro e w2 ⟨uL, rfl, hL1, e2⟩
    obtain ⟨dL, mL, rfl, lL⟩ := hL1.form
    go_wp2_with fail
    with_reducible refine (specLP_any (w0 := w1) (w := w2) hX hP hki hnb).mono ?_
    rw [← hQ.out, ← hL.out]
    rintro e w3 ⟨uL2, rfl, hL2, e3⟩
    obtain ⟨dL2, mL2, rfl, lL2⟩ := hL2.form
    have hL1 := hL1.ext (w' := w3)
    have g3 : Ext w1 w3 := Ext.trans e2 e3
    go_wp2_with fail
    with_reducible refine (rInts_eq (w0 := w3) (w := w3) hL1 hL2).mono ?_
    rintro e w4 ⟨rfl, e4⟩
    have g4 : Ext w1 w4 := Ext.trans g3 e4
    clear hL2
    go_wp2_with fail
    with_reducible refine (implPC_any (w0 := w1) (w := w4) hX hP hki hnb).mono ?_
    rw [← hQ.out, ← hA.out]
    rintro e w5 ⟨uA, rfl, hA1, e5⟩
    obtain ⟨dA, mA, rfl, lA⟩ := hA1.form
    have g5 : Ext w1 w5 := Ext.trans g4 e5
    go_wp2_with fail
    with_reducible refine (specPC_any (w0 := w1) (w := w5) hX hP hki hnb).mono ?_
    rw [← hQ.out, ← hA.out]
    rintro e w6 ⟨uA2, rfl, hA2, e6⟩
    obtain ⟨dA2, mA2, rfl, lA2⟩ := hA2.form
    have hA1 := hA1.ext (w' := w6)
    have g6 : Ext w1 w6 := Ext.trans g5 e6
    go_wp2_with fail
    with_reducible refine (rTable_eq (w0 := w6) (w := w6) hA1 hA2).mono ?_
    rintro e w7 ⟨rfl, e7⟩
    have g7 : Ext w1 w7 := Ext.trans g6 e7
    have hA1 := hA1.ext (w' := w7)
    clear hA2
    cases Q with
    | false =>
      go_wp2_with fail
      go_ret
      exact ⟨rfl, Ext.trans e1 g7⟩
    | true =>
      clear q1
      have hQt := hid hQ.out.symm
      have hLv : L = lzL k X P X.length := by rw [hL.out, lzR, hQt.out]; rfl
      obtain ⟨hb2, hf2, hlaw⟩ := lz_law hQt.out
      rw [← hLv] at hb2 hf2 hlaw
      have hAv : A = rnL X P X.length := by rw [hA.out, pcC, hQt.out]; rfl
      have hC2 : pcC k n X L = rnL X L X.length := by rw [pcC, hb2]; rfl
      obtain ⟨A2, hA2v⟩ : ∃ q, q = pcC k n X L := ⟨_, rfl⟩
      obtain ⟨Q2, hQ2⟩ : ∃ q, q = pcB k n X L := ⟨_, rfl⟩
      have hA2e : A2 = rnL X L X.length := by rw [hA2v, hC2]
      have hAl : A.length = X.length := by rw [hAv, rnL_len]
      have hA2l : A2.length = X.length := by rw [hA2e, rnL_len]
      have hF1 : pcF k n X P = rnF X P X.length := by rw [pcF, hQt.out]; rfl
      have hF2 : pcF k n X L = rnF X L X.length := by rw [pcF, hb2]; rfl
      have hfle : pcF k n X L ≤ pcF k n X P := by rw [hF1, hF2]; exact hf2
      have hrows := hid (show ∀ i, i < X.length → nth X i ∈ row A i ∧ nth X i ∈ row A2 i ∧ ((row A2 i).length : Int) ≤ k ∧ ∀ y ∈ row A i, y ∈ row A2 i from fun i hi => by
        rw [hAv, hA2e, rnL_at hi, rnL_at hi]
        exact hlaw i hi)
      have n1 : ((A.length : Int) != (X.length : Int)) = false := by simp; omega
      have n2 : ((A2.length : Int) != (X.length : Int)) = false := by simp; omega
      have hQ2t : Q2 = true := by rw [hQ2, hb2]
      replace hAl := hid hAl
      replace hA2l := hid hA2l
      replace hA2v := hid hA2v
      replace hQ2 := hid hQ2
      replace hLv := hid hLv
      replace hb2 := hid hb2
      replace hAv := hid hAv
      replace hA2e := hid hA2e
      replace hfle := hid hfle
      clear hf2 hlaw hF1 hF2 hC2
      subst hQ2t
      have hXw := hX
      have hL7 := hL1.ext (e := Ext.trans e4 (Ext.trans e5 (Ext.trans e6 e7)))
      have hX7 := hX.ext (e := g7)
      have hP7 := hP.ext (e := g7)
      clear hXw hL1 hX hP
      go_wp2_with fail
      with_reducible refine (implPC_any (w0 := w7) (w := w7) hX7 hL7 hki hnb).mono ?_
      rw [← hQ2.out, ← hA2v.out]
      rintro e w8 ⟨uB, rfl, hB1, e8⟩
      obtain ⟨dB, mB, rfl, lB⟩ := hB1.form
      go_wp2_with fail
      with_reducible refine (specPC_any (w0 := w7) (w := w8) hX7 hL7 hki hnb).mono ?_
      rw [← hQ2.out, ← hA2v.out]
      rintro e w9 ⟨uB2, rfl, hB2, e9⟩
      obtain ⟨dB2, mB2, rfl, lB2⟩ := hB2.form
      have hB1 := hB1.ext (w' := w9)
      have g79 : Ext w7 w9 := Ext.trans e8 e9
      go_wp2_with fail
      with_reducible refine (rTable_eq (w0 := w9) (w := w9) hB1 hB2).mono ?_
      rintro e w10 ⟨rfl, e10⟩
      have g710 : Ext w7 w10 := Ext.trans g79 e10
      have hB1 := hB1.ext (w' := w10)
      have hA10 := hA1.ext (e := g710)
      have hX10 := hX7.ext (e := g710)
      have hP10 := hP7.ext (e := g710)
      have hL10 := hL7.ext (e := g710)
      have g10 : Ext w1 w10 := Ext.trans g7 g710
      clear hB2 hX7 hP7 hL7 hA1
      go_wp2_with fail
      go_loopw [19, 20] (fun iv _ wr => ∃ i : Nat, i ≤ X.length ∧ iv = .int .i64 i ∧ Ext w10 wr) (fun iv _ _ => X.length - (intOf iv).toNat)
      case atStart => exact ⟨0, by omega, rfl, Ext.refl _⟩
      case round =>
        clear n1 n2
        obtain ⟨i, hi, rfl, he⟩ := hrel
        obtain ⟨wq, rfl⟩ : ∃ y : World, y = wr := ⟨_, rfl⟩
        by_cases hlt : i < X.length
        · have hiA : i < A.length := by have := hAl.out; omega
          have hiB : i < A2.length := by have := hA2l.out; omega
          obtain ⟨bA, oA, dAi, mAi, hdA, hcA, hrA, hlA⟩ := hA10.at (w' := wq) (k := i) hiA
          cases hdA
          obtain ⟨bB, oB, dBi, mBi, hdB, hcB, hrB, hlB⟩ := hB1.at (w' := wq) (k := i) hiB
          cases hdB
          obtain ⟨bX, oX, hdX, hcX⟩ := hX10.at (w' := wq) (k := i) hlt
          cases hdX
          obtain ⟨hm1, hm2, hm3, hm4⟩ := hrows.out i hlt
          have hri := hX10.i64 hlt
          obtain ⟨r, hr⟩ : ∃ r, r = nth X i := ⟨_, rfl⟩
          obtain ⟨S, hS⟩ : ∃ r, r = row A i := ⟨_, rfl⟩
          obtain ⟨T, hT⟩ : ∃ r, r = row A2 i := ⟨_, rfl⟩
          rw [← hr] at hcX hm1 hm2 hri
          rw [← hS] at hm1 hm4 hcA hrA hlA
          rw [← hT] at hm2 hm3 hm4 hcB hrB hlB
          have hdec : decide ((T.length : Int) > k) = false := decide_eq_false (by omega)
          have hH1 := hid (show ∀ u, Ext wq u → Calls Try.prog 22 #[.slice dAi S.length mAi, .int .i64 r] u fun e w' => e = .returned (.bool true) ∧ w' = u from fun u e => by
            have e10u : Ext w10 u := Ext.trans he e
            exact (rHasL_any (w0 := w10) (w := u) (x := r) hrA).mono fun _ _ ⟨h1, h2⟩ => ⟨by rw [h1, hasB_true.2 hm1], h2.symm⟩)
          have hH2 := hid (show ∀ u, Ext wq u → Calls Try.prog 22 #[.slice dBi T.length mBi, .int .i64 r] u fun e w' => e = .returned (.bool true) ∧ w' = u from fun u e => by
            have e10u : Ext w10 u := Ext.trans he e
            exact (rHasL_any (w0 := w10) (w := u) (x := r) hrB).mono fun _ _ ⟨h1, h2⟩ => ⟨by rw [h1, hasB_true.2 hm2], h2.symm⟩)
          have hrB' := hid hrB
          have hrA' := hid hrA
          replace hm1 := hid hm1
          replace hm2 := hid hm2
          replace hm4 := hid hm4
          replace hr := hid hr
          replace hS := hid hS
          replace hT := hid hT
          clear hrA hrB
          go_upto_region 23 with (go_quiet ((go_at_call 22; first | (with_reducible exact Calls.quiet_of_same (hH1.out _ inferInstance)) | (with_reducible exact Calls.quiet_of_same (hH2.out _ inferInstance)))))
          have exz : Ext wq (wq.drewN nq) := inferInstance
          have hcAz := exz.cell hcA
          have hcBz := exz.cell hcB
          clear hcA hcB hcX hH1 hH2 hdec
          generalize wq.drewN nq = wz at *
          have hez : Ext w10 wz := Ext.trans he exz
          go_wp2_with fail
          go_loopw [20] (fun jv wr => ∃ j : Nat, j ≤ S.length ∧ jv = .int .i64 j ∧ Ext wz wr) (fun jv _ => S.length - (intOf jv).toNat)
          case atStart => exact ⟨0, by omega, rfl, Ext.refl _⟩
          case round =>
            obtain ⟨j, hj, rfl, hej⟩ := hrel
            obtain ⟨wj, rfl⟩ : ∃ y : World, y = wr := ⟨_, rfl⟩
            have hcAj := hej.cell hcAz
            have hcBj := hej.cell hcBz
            by_cases hjl : j < S.length
            · have e10j : Ext w10 wj := Ext.trans hez hej
              obtain ⟨bS, oS, hdS, hcS⟩ := (hrA'.out).at (w' := wj) (k := j) hjl
              subst hdS
              have hyT := hm4.out _ (nth_mem hjl)
              have hyi := (hrA'.out).i64 hjl
              obtain ⟨y, hy⟩ : ∃ r, r = nth S j := ⟨_, rfl⟩
              rw [← hy] at hcS hyT hyi
              have hH := hid (show ∀ u, Ext wj u → Calls Try.prog 22 #[.slice dBi T.length mBi, .int .i64 y] u fun e w' => e = .returned (.bool true) ∧ w' = u from fun u e => by
                have e10u : Ext w10 u := Ext.trans e10j e
                exact (rHasL_any (w0 := w10) (w := u) (x := y) hrB'.out).mono fun _ _ ⟨h1, h2⟩ => ⟨by rw [h1, hasB_true.2 hyT], h2.symm⟩)
              replace hyT := hid hyT
              replace hy := hid hy
              go_wp2_with (go_quiet ((go_at_call 22; exact Calls.quiet_of_same (hH.out _ inferInstance))))
              go_roundw
              case rel => exact ⟨j + 1, by omega, by go_num, Ext.trans hej inferInstance⟩
              case measure => simp [intOf]; omega
            · go_wp2_with fail
              go_roundw
              case rel => exact ⟨i + 1, by omega, by go_num, Ext.trans hez hej⟩
              case measure => simp [intOf]; omega
        · obtain ⟨f1, hf1⟩ : ∃ f, f = pcF k n X P := ⟨_, rfl⟩
          obtain ⟨f2, hf2⟩ : ∃ f, f = pcF k n X L := ⟨_, rfl⟩
          have hle : f2 ≤ f1 := by rw [hf1, hf2]; exact hfle.out
          have hdec : decide (f2 ≤ f1) = true := decide_eq_true hle
          replace hf1 := hid hf1
          replace hf2 := hid hf2
          clear hle
          go_wp2_with fail
          with_reducible refine (implPF_any (w0 := w10) (w := wq) hX10 hP10 hki hnb).mono ?_
          rw [hQt.out, ← hf1.out]
          rintro e w11 ⟨rfl, e11⟩
          have e1011 : Ext w10 w11 := Ext.trans he e11
          go_wp2_with fail
          with_reducible refine (implPF_any (w0 := w10) (w := w11) hX10 hL10 hki hnb).mono ?_
          rw [hb2.out, ← hf2.out]
          rintro e w12 ⟨rfl, e12⟩
          go_wp2_with fail
          go_ret
          exact ⟨rfl, Ext.trans e1 (Ext.trans g10 (Ext.trans e1011 e12))⟩
end Go.Proofs.Ytkibmjenjgijmab
