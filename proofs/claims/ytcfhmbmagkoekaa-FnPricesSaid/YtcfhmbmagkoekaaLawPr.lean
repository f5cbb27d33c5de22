/- 'laws.FnPrices': for every code the law returns true. -/
import Derived.Test.YtcfhmbmagkoekaaPbD
import Derived.Test.YtcfhmbmagkoekaaPbS
import Derived.Test.YtcfhmbmagkoekaaChL
import Derived.Test.YtcfhmbmagkoekaaGrN
import Derived.Test.YtcfhmbmagkoekaaGrM
namespace Go.Proofs.Ytcfhmbmagkoekaa
open Go.RowKit

theorem LpOk.uni {M : List (List Int)} {a X L L' : List Int} (h1 : LpOk M a X L) (h2 : LpOk M a X L') : L = L' := by
  unfold LpOk at h1 h2
  cases hs : srvB M a X with
  | false =>
    rw [hs] at h1 h2
    have e1 : L = [] := h1
    have e2 : L' = [] := h2
    rw [e1, e2]
  | true =>
    rw [hs] at h1 h2
    obtain ⟨g1, f1, m1, l1⟩ := h1
    obtain ⟨g2, f2, m2, l2⟩ := h2
    apply List.ext_getElem (by rw [g1, g2])
    intro i hi hi2
    have := low_uni m1 m2 l1 l2 i (by omega)
    simpa [nth, hi, hi2] using this
/-- what the law asks of the least prices, and of all prices -/
theorem pr_law {M : List (List Int)} {a X L : List Int} (hs : srvB M a X = true) (hL : LpOk M a X L) (hb : ∀ x ∈ L, 0 ≤ x ∧ x ≤ 99999) :
    L.length = X.length ∧ pbOk M a X L = true ∧ pbR M a X L = lwR M a X ∧ ∀ P, pbOk M a X P = true → pbR M a X P ≤ lwR M a X ∧ P.length = X.length ∧ (pbR M a X P = lwR M a X → ∀ i, i < L.length → nth L i ≤ nth P i) := by
  have hL' := hL
  unfold LpOk at hL
  rw [hs] at hL
  obtain ⟨hl, f, hf, hlow⟩ := hL
  obtain ⟨⟨q, hc⟩, hle⟩ := hlow
  have hlw := chain_least hs hf hc
  have hv : ∀ P : List Int, pbTo M a X P (a.length + X.length) = dval (nth P) (fun l => rentOf (alB a.length) (flC M a X) (nth P) l X.length) X.length (a.length + X.length) := fun P => rfl
  have hok : pbOk M a X L = true := by
    rw [pbOk, hs, decide_eq_true hl, belowB_of fun k hk => inB_true.2 (by have := hb _ (nth_mem hk); omega)]
    rfl
  have hcr := cert_rent hf hc
  have hval : pbR M a X L = lwR M a X := by
    rw [pbR, if_pos hok, hv, hcr.val hf, hlw]
  refine ⟨hl, hok, hval, fun P hP => ?_⟩
  have hw := weak hf (rent_dual (alB a.length) (c := flC M a X) (n := X.length) (m := a.length + X.length) (p := nth P))
  have hPv : pbR M a X P = dval (nth P) (fun l => rentOf (alB a.length) (flC M a X) (nth P) l X.length) X.length (a.length + X.length) := by rw [pbR, if_pos hP, hv]
  have hPl : P.length = X.length := by
    unfold pbOk at hP
    rw [Bool.and_eq_true, Bool.and_eq_true, decide_eq_true_eq] at hP
    exact hP.2.1
  refine ⟨by rw [hPv, ← hlw]; exact hw, hPl, fun he i hi => ?_⟩
  have hcP := slack hf (rent_dual (alB a.length) (c := flC M a X) (n := X.length) (m := a.length + X.length) (p := nth P)) (by rw [← hPv, he, hlw]; exact Int.le_refl _)
  exact hle _ _ hcP i (by omega)
set_option maxHeartbeats 6400000 in
set_option maxRecDepth 100000 in
theorem lawFnPrices_any {v : Value} {nb : Nat} {w : World} (hc : IsBytes w v nb) :
    Calls Try.prog 4 #[v] w fun e w' => e = .returned (.bool true) ∧ Ext w w' := by
  have hc' := hc
  obtain ⟨ac, cc, rfl⟩ := hc.form
  by_cases hbig : 65536 < nb
  · have hd := hid (decide_eq_true hbig)
    go_enter Try.func4, Try.ntmps4
    go_wp2_with fail
    refine (vBig_l hc').mono ?_
    rw [hd.out]
    rintro e w1 ⟨rfl, rfl⟩
    go_wp2_with fail
    go_ret
    exact ⟨rfl, Ext.refl _⟩
  · have hd := hid (decide_eq_false hbig)
    go_enter Try.func4, Try.ntmps4
    go_wp2_with fail
    refine (vBig_l hc').mono ?_
    rw [hd.out]
    rintro e w1 ⟨rfl, rfl⟩
    go_wp2_with fail
    refine (drawPB_any (w0 := w) (w := w) hc').mono ?_
    rintro e w1 ⟨fM, cM, av, xv, pv, M, a, X, P, Z, rfl, hMok, hal, hXl, hPl, ownZ, hZ, e1⟩
    obtain ⟨hm, ha, hX, hP⟩ := hZ.out _ _ ownZ
    obtain ⟨da, ma, rfl, la⟩ := ha.form
    obtain ⟨dx, mx, rfl, lx⟩ := hX.form
    obtain ⟨dp, mp, rfl, lp⟩ := hP.form
    clear hZ ownZ
    go_upto_region 4 with fail
    have g2 : Ext w1 (w1.alloc (.cells #[.slice fM M.length cM] 29)) := inferInstance
    have x0_2 : (w1.alloc (.cells #[.slice fM M.length cM] 29)).cell? ⟨w1.heap.size, 0, none⟩ = some (.slice fM M.length cM) := by go_simp
    obtain ⟨p, hp⟩ : ∃ r, r = w1.heap.size := ⟨_, rfl⟩
    rw [← hp] at x0_2 ⊢
    replace hp := hid hp
    generalize w1.alloc (.cells #[.slice fM M.length cM] 29) = w2 at *
    obtain ⟨K, hK⟩ : ∃ q, q = lwR M a X := ⟨_, rfl⟩
    obtain ⟨Q, hQ⟩ : ∃ q, q = srvB M a X := ⟨_, rfl⟩
    obtain ⟨T, hT⟩ : ∃ q, q = pbR M a X P := ⟨_, rfl⟩
    obtain ⟨U, hU⟩ : ∃ q, q = pbOk M a X P := ⟨_, rfl⟩
    replace hK := hid hK
    replace hQ := hid hQ
    replace hT := hid hT
    replace hU := hid hU
    go_wp2_with fail
    with_reducible refine (implPb_any (w0 := w1) (w := w2) hm ha hX hP).mono ?_
    rw [← hT.out, ← hU.out]
    rintro e w3 ⟨rfl, e3⟩
    have x0_3 := e3.cell x0_2
    have g3 : Ext w1 w3 := Ext.trans g2 e3
    clear x0_2
    go_wp2_with fail
    with_reducible refine (specPb_any (w0 := w1) (w := w3) hm ha hX hP).mono ?_
    rw [← hT.out, ← hU.out]
    rintro e w4 ⟨rfl, e4⟩
    have x0_4 := e4.cell x0_3
    have g4 : Ext w1 w4 := Ext.trans g3 e4
    clear x0_3
    go_wp2_with fail
    with_reducible refine (implLp_any (w0 := w1) (w := w4) hm ha hX).mono ?_
    rintro e w5 ⟨u5, L, he5, hL5, hb5, hok5, e5⟩
    rw [← hQ.out] at he5
    subst he5
    have x0_5 := e5.cell x0_4
    have g5 : Ext w1 w5 := Ext.trans g4 e5
    obtain ⟨d5, m5, rfl, l5⟩ := hL5.form
    clear x0_4
    go_wp2_with fail
    with_reducible refine (specLpc_any (w0 := w1) (w := w5) hm ha hX).mono ?_
    rintro e w6 ⟨gq, cq, L6, he6, own6, hb6, hl6, hok6, e6⟩
    rw [← hQ.out] at he6
    subst he6
    have x0_6 := e6.cell x0_5
    have g6 : Ext w1 w6 := Ext.trans g5 e6
    have hLL : L = L6 := hok5.uni hok6
    have hL6 : IsInts w6 (.slice (some ⟨gq, 0, none⟩) L6.length cq) L6 := own6.reads (by unfold Short; omega) (fun x hx => by have := hb6 x hx; unfold I64; omega)
    have hL56 := hL5.ext (w' := w6)
    have hdc := hid (show decide (L = L6) = true from decide_eq_true hLL)
    have hbL := hid (show ∀ x ∈ L, 0 ≤ x ∧ x ≤ 99999 from fun x hx => hb6 x (by rw [← hLL]; exact hx))
    replace hLL := hid hLL
    replace hok5 := hid hok5
    clear x0_5 own6 hok6 hb5 hb6
    have hQQ : (Q != Q) = false := by simp
    have hUU : (U != U) = false := by simp
    have hTT : (T != T) = false := by simp
    go_wp2_with fail
    with_reducible refine (vInts_any (w0 := w6) (w := w6) hL56 hL6).mono ?_
    rw [hdc.out]
    rintro e w7 ⟨rfl, e7⟩
    have x0_7 := e7.cell x0_6
    have g7 : Ext w1 w7 := Ext.trans g6 e7
    have hL7 := hL56.ext (w' := w7)
    clear x0_6 hL5 hL56 hL6 hQQ hUU hTT
    cases Q with
    | false =>
      go_wp2_with fail
      go_ret
      exact ⟨rfl, Ext.trans e1 g7⟩
    | true =>
      obtain ⟨q1, q2, q3, q4⟩ := pr_law hQ.out.symm hok5.out hbL.out
      have hq2 := hid q2
      have hq3 := hid q3
      have hq4 := hid q4
      have hq1 : L.length ≤ X.length ∧ X.length ≤ L.length := by omega
      clear q1 q2 q3 q4
      have hm7 := hm.ext (w' := w7)
      have ha7 := ha.ext (w' := w7)
      have hX7 := hX.ext (w' := w7)
      go_wp2_with fail
      with_reducible refine (implLeast_any (w0 := w7) (w := w7) hm7 ha7 hX7).mono ?_
      rw [← hK.out, ← hQ.out]
      rintro e w8 ⟨rfl, e8⟩
      have x0_8 := e8.cell x0_7
      clear x0_7
      go_wp2_with fail
      with_reducible refine (implPb_any (w0 := w7) (w := w8) hm7 ha7 hX7 hL7).mono ?_
      rw [hq2.out, hq3.out, ← hK.out]
      rintro e w9 ⟨rfl, e9⟩
      have g79 : Ext w7 w9 := Ext.trans e8 e9
      have eF : Ext w w9 := Ext.trans e1 (Ext.trans g7 g79)
      have hKK : (K != K) = false := by simp
      clear x0_8
      cases U with
      | false =>
        go_wp2_with fail
        go_loopw [19] (fun q wr => q = .int .i64 0 ∧ Ext w9 wr) (fun _ _ => 0)
        case atStart => exact ⟨rfl, Ext.refl _⟩
        case round =>
          obtain ⟨rfl, he⟩ := hrel
          obtain ⟨wo, rfl⟩ : ∃ y : World, y = wr := ⟨_, rfl⟩
          go_wp2_with fail
          go_ret
          exact ⟨rfl, Ext.trans eF he⟩
      | true =>
        obtain ⟨r1, r2, r3⟩ := hq4.out P hU.out.symm
        rw [← hT.out, ← hK.out] at r1 r3
        have hTK : ¬ T > K := by omega
        have r2' : P.length ≤ X.length ∧ X.length ≤ P.length := by omega
        replace r3 := hid r3
        clear r2
        have hP9 := (hP.ext (w' := w7)).ext (w' := w9)
        have hL9 := hL7.ext (w' := w9)
        by_cases hTe : T = K
        · have hTb : (T == K) = true := beq_iff_eq.2 hTe
          have hcmp := hid (r3.out hTe)
          replace hTe := hid hTe
          go_wp2_with fail
          go_loopw [19] (fun q wr => ∃ i : Nat, i ≤ L.length ∧ q = .int .i64 i ∧ Ext w9 wr) (fun q _ => L.length - (intOf q).toNat)
          case atStart => exact ⟨0, by omega, rfl, Ext.refl _⟩
          case round =>
            obtain ⟨i, hi, rfl, he⟩ := hrel
            obtain ⟨wo, rfl⟩ : ∃ y : World, y = wr := ⟨_, rfl⟩
            by_cases hlt : i < L.length
            · obtain ⟨bp, op, hdp, hcp⟩ := hP9.at (w' := wo) (k := i) (by omega)
              cases hdp
              obtain ⟨bl, ol, hdl, hcl⟩ := hL9.at (w' := wo) (k := i) hlt
              cases hdl
              have hle := hcmp.out i hlt
              have hiP : i < P.length := by omega
              generalize nth P i = x at hcp hle
              generalize nth L i = y at hcl hle
              have hnl : ¬ x < y := by omega
              go_wp2_with (go_quiet (fail))
              go_roundw
              case rel => exact ⟨i + 1, by omega, by go_num, Ext.trans he inferInstance⟩
              case measure => simp [intOf]; omega
            · go_wp2_with fail
              go_ret
              exact ⟨rfl, Ext.trans eF he⟩
        · have hTb : (T == K) = false := beq_eq_false_iff_ne.2 hTe
          replace hTe := hid hTe
          go_wp2_with fail
          go_loopw [19] (fun q wr => q = .int .i64 0 ∧ Ext w9 wr) (fun _ _ => 0)
          case atStart => exact ⟨rfl, Ext.refl _⟩
          case round =>
            obtain ⟨rfl, he⟩ := hrel
            obtain ⟨wo, rfl⟩ : ∃ y : World, y = wr := ⟨_, rfl⟩
            go_wp2_with fail
            go_ret
            exact ⟨rfl, Ext.trans eF he⟩
end Go.Proofs.Ytcfhmbmagkoekaa
