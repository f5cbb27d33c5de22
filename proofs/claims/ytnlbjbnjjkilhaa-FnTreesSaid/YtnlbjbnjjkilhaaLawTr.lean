/- 'laws.FnTrees': for every code the law returns true. -/
import Derived.Test.YtnlbjbnjjkilhaaTdB
import Derived.Test.YtnlbjbnjjkilhaaTlA
import Derived.Test.YtnlbjbnjjkilhaaTrL
import Derived.Test.YtnlbjbnjjkilhaaTrE
import Derived.Test.YtnlbjbnjjkilhaaTrI
import Derived.Test.YtnlbjbnjjkilhaaTsE
import Derived.Test.YtnlbjbnjjkilhaaTiE
import Derived.Test.YtnlbjbnjjkilhaaTiG
import Derived.Test.YtnlbjbnjjkilhaaTjD
namespace Go.Proofs.Ytnlbjbnjjkilhaa
open Go.RowKit

theorem met_ext {w w' : World} {v : Value} {M : List (List Int)} (h : IsMet w v M) [e : Ext w w'] : IsMet w' v M := by
  obtain ⟨v1, rfl, hR⟩ := h
  exact ⟨v1, rfl, hR.ext⟩
set_option maxHeartbeats 6400000 in
set_option maxRecDepth 100000 in
theorem lawFnTrees_any {v : Value} {nb : Nat} {w : World} (hc : IsBytes w v nb) :
    Calls Try.prog 3 #[v] w fun e w' => e = .returned (.bool true) ∧ Ext w w' := by
  have hc' := hc
  obtain ⟨ac, cc, rfl⟩ := hc.form
  by_cases hbig : 65536 < nb
  · have hd := hid (decide_eq_true hbig)
    go_enter Try.func3, Try.ntmps3
    go_wp2_with fail
    refine (rBig_l hc').mono ?_
    rw [hd.out]
    rintro e w1 ⟨rfl, rfl⟩
    go_wp2_with fail
    go_ret
    exact ⟨rfl, Ext.refl _⟩
  · have hd := hid (decide_eq_false hbig)
    go_enter Try.func3, Try.ntmps3
    go_wp2_with fail
    refine (rBig_l hc').mono ?_
    rw [hd.out]
    rintro e w1 ⟨rfl, rfl⟩
    go_wp2_with fail
    refine (drawTM_any (w0 := w) (w := w) hc').mono ?_
    rintro e w1 ⟨pv, lv, P, L, rfl, hPl, hLl, hP, hL, e1⟩
    obtain ⟨dp, mp, rfl, lp⟩ := hP.form
    obtain ⟨dl, ml, rfl, ll⟩ := hL.form
    obtain ⟨Q, hQ⟩ : ∃ Q, Q = tmB P L := ⟨_, rfl⟩
    replace hQ := hid hQ
    go_wp2_with fail
    with_reducible refine (implTM_any (w0 := w1) (w := w1) hP hL).mono ?_
    rintro e w2 ⟨v2, he2, hM2, e2⟩
    rw [← hQ.out] at he2
    subst he2
    obtain ⟨v2', hv2', hR2⟩ := hM2
    obtain ⟨a2, c2, rfl, l2⟩ := hR2.form
    cases hv2'
    have hM2 : IsMet w2 (.agg #[.slice a2 (tmM P L).length c2]) (tmM P L) := ⟨_, rfl, hR2⟩
    clear hR2
    go_upto_region 5 with fail
    have g3 : Ext w2 (w2.alloc (.cells #[.slice a2 (tmM P L).length c2] 29)) := inferInstance
    have x3 : (w2.alloc (.cells #[.slice a2 (tmM P L).length c2] 29)).cell? ⟨w2.heap.size, 0, none⟩ = some (.slice a2 (tmM P L).length c2) := by go_simp
    obtain ⟨b5, hb5⟩ : ∃ r, r = w2.heap.size := ⟨_, rfl⟩
    rw [← hb5] at x3 ⊢
    replace hb5 := hid hb5
    generalize w2.alloc (.cells #[.slice a2 (tmM P L).length c2] 29) = w3 at *
    have e13 : Ext w1 w3 := Ext.trans e2 g3
    go_wp2_with fail
    with_reducible refine (specTM_any (w0 := w1) (w := w3) hP hL).mono ?_
    rintro e w4 ⟨v4, he4, hM4, e4⟩
    rw [← hQ.out] at he4
    subst he4
    obtain ⟨v4', hv4', hR4⟩ := hM4
    obtain ⟨a4, c4, rfl, l4⟩ := hR4.form
    cases hv4'
    have hM4 : IsMet w4 (.agg #[.slice a4 (tmM P L).length c4]) (tmM P L) := ⟨_, rfl, hR4⟩
    clear hR4
    have x4 := e4.cell x3
    clear x3
    go_upto_region 6 with fail
    have g5 : Ext w4 (w4.alloc (.cells #[.slice a4 (tmM P L).length c4] 29)) := inferInstance
    have y5 : (w4.alloc (.cells #[.slice a4 (tmM P L).length c4] 29)).cell? ⟨w4.heap.size, 0, none⟩ = some (.slice a4 (tmM P L).length c4) := by go_simp
    obtain ⟨b7, hb7⟩ : ∃ r, r = w4.heap.size := ⟨_, rfl⟩
    rw [← hb7] at y5 ⊢
    replace hb7 := hid hb7
    generalize w4.alloc (.cells #[.slice a4 (tmM P L).length c4] 29) = w5 at *
    have x5 := g5.cell x4
    clear x4
    have hQQ : (Q != Q) = false := by simp
    have hM25 : IsMet w5 (.agg #[.slice a2 (tmM P L).length c2]) (tmM P L) := met_ext hM2 (e := Ext.trans g3 (Ext.trans e4 g5))
    have hM45 : IsMet w5 (.agg #[.slice a4 (tmM P L).length c4]) (tmM P L) := met_ext hM4
    have hL5 : IsInts w5 (.slice dl L.length ml) L := hL.ext (e := Ext.trans e13 (Ext.trans e4 g5))
    clear hM2 hM4
    go_wp2_with fail
    with_reducible refine (rMetric_l (w0 := w5) (w := w5) hM25 hM45).mono ?_
    rintro e w6 ⟨rfl, e6⟩
    have x6 := e6.cell x5
    have ew6 : Ext w w6 := Ext.trans (Ext.trans e1 e13) (Ext.trans (Ext.trans e4 g5) e6)
    clear x5 y5 hM45 hQQ hP
    cases Q with
    | false =>
      as_aux_lemma =>
        have g20 : Ext w w6 := ew6
        go_wp2_with fail
        with_reducible refine (drawIS_any (w0 := w) (w := w6) hc').mono ?_
        rintro e w21 ⟨d, m, tv, M, T, rfl, hMok, hTl, hM, hT, e21⟩
        obtain ⟨dt, mt, rfl, lt⟩ := hT.form
        have g21 : Ext w w21 := Ext.trans g20 e21
        go_upto_region 19 with fail
        have g22 : Ext w21 (w21.alloc (.cells #[.slice d M.length m] 29)) := inferInstance
        have x22 : (w21.alloc (.cells #[.slice d M.length m] 29)).cell? ⟨w21.heap.size, 0, none⟩ = some (.slice d M.length m) := by go_simp
        obtain ⟨b17, hb17⟩ : ∃ r, r = w21.heap.size := ⟨_, rfl⟩
        rw [← hb17] at x22 ⊢
        replace hb17 := hid hb17
        generalize w21.alloc (.cells #[.slice d M.length m] 29) = w22 at *
        obtain ⟨I, hI⟩ : ∃ q, q = isI M T := ⟨_, rfl⟩
        obtain ⟨O, hO⟩ : ∃ q, q = okI M T := ⟨_, rfl⟩
        obtain ⟨N, hN⟩ : ∃ q, q = metB M := ⟨_, rfl⟩
        replace hI := hid hI
        replace hO := hid hO
        replace hN := hid hN
        go_wp2_with fail
        with_reducible refine (implIS_any (w0 := w21) (w := w22) hM hT).mono ?_
        rintro e w23 ⟨he23, e23⟩
        rw [← hI.out, ← hO.out] at he23
        subst he23
        have x23 := e23.cell x22
        have g23 : Ext w21 w23 := Ext.trans g22 e23
        clear x22
        go_wp2_with fail
        with_reducible refine (specIS_any (w0 := w21) (w := w23) hM hT).mono ?_
        rintro e w24 ⟨he24, e24⟩
        rw [← hI.out, ← hO.out] at he24
        subst he24
        have x24 := e24.cell x23
        have g24 : Ext w21 w24 := Ext.trans g23 e24
        have hII : (I != I) = false := by simp
        have hOO : (O != O) = false := by simp
        clear x23
        go_wp2_with fail
        with_reducible refine (implST_any (w0 := w21) (w := w24) hM).mono ?_
        rintro e w25 ⟨d1, m1, T1, s1, he25, hs1, hf1, e25⟩
        rw [← hN.out] at he25
        subst he25
        have x25 := e25.cell x24
        have g25 : Ext w21 w25 := Ext.trans g24 e25
        replace hs1 := hid hs1
        clear x24 hII hOO
        go_wp2_with fail
        with_reducible refine (specST_any (w0 := w21) (w := w25) hM).mono ?_
        rintro e w26 ⟨d2, m2, T2, s2, he26, hs2, hf2, e26⟩
        rw [← hN.out] at he26
        subst he26
        obtain ⟨rfl, rfl⟩ := hs1.out.uniq hs2
        have x26 := e26.cell x25
        have g26 : Ext w21 w26 := Ext.trans g25 e26
        have hf1' := hf1.ext (w' := w26)
        have hNN : (N != N) = false := by simp
        have hSS : (s1 != s1) = false := by simp
        clear x25 hs2
        go_wp2_with fail
        with_reducible refine (rPairs_l (w0 := w26) (w := w26) hf1' hf2).mono ?_
        rintro e w27 ⟨rfl, e27⟩
        have x27 := e27.cell x26
        have g27 : Ext w21 w27 := Ext.trans g26 e27
        clear x26 hf2 hSS
        go_wp2_with fail
        with_reducible refine (implCT_any (w0 := w21) (w := w27) hM).mono ?_
        rintro e w28 ⟨d3, m3, C, he28, hC, hf3, e28⟩
        rw [← hN.out] at he28
        subst he28
        have x28 := e28.cell x27
        have g28 : Ext w21 w28 := Ext.trans g27 e28
        replace hC := hid hC
        clear x27
        go_wp2_with fail
        with_reducible refine (specCT_any (w0 := w21) (w := w28) hM).mono ?_
        rintro e w29 ⟨d4, m4, C2, he29, hC2, hf4, e29⟩
        rw [← hN.out] at he29
        subst he29
        obtain rfl := hC.out.uniq hC2
        have x29 := e29.cell x28
        have g29 : Ext w21 w29 := Ext.trans g28 e29
        have hf3' := hf3.ext (w' := w29)
        clear x28 hC2
        go_wp2_with fail
        with_reducible refine (rTable_l (w0 := w29) (w := w29) hf3' hf4).mono ?_
        rintro e w30 ⟨rfl, e30⟩
        have x30 := e30.cell x29
        have g30 : Ext w21 w30 := Ext.trans g29 e30
        clear x29 hf4 hNN
        cases N with
        | false =>
          go_wp2_with fail
          go_ret
          exact ⟨rfl, Ext.trans g21 g30⟩
        | true =>
          have hMt := hid hN.out.symm
          go_wp2_with fail
          with_reducible refine (implLL_any (w0 := w21) (w := w30) hM).mono ?_
          rintro e w31 ⟨bl, he31, hbl, e31⟩
          rw [hMt.out] at he31
          subst he31
          have x31 := e31.cell x30
          have g31 : Ext w21 w31 := Ext.trans g30 e31
          replace hbl := hid hbl
          clear x30
          go_wp2_with fail
          with_reducible refine (implTL_any (w0 := w21) (w := w31) hM).mono ?_
          rintro e w32 ⟨bt, he32, hbt, e32⟩
          rw [hMt.out] at he32
          subst he32
          have x32 := e32.cell x31
          have g32 : Ext w21 w32 := Ext.trans g31 e32
          have hlt := hid (show bl = true → bt = true from fun h => by
            obtain ⟨p, hp⟩ := hbl.out h
            exact hbt hMt.out (ll_four hp))
          clear x31 hbt
          have hlaw := hid (ct_law hMt.out hs1.out hC.out)
          have hMR := hid (show IsRows w21 (.slice d M.length m) M from by obtain ⟨vM, hvM, hMR⟩ := hM; cases hvM; exact hMR)
          have hf3h := hid hf3
          have hf1h := hid hf1
          have ew32 : Ext w w32 := Ext.trans g21 g32
          have e2832 := hid (show Ext w28 w32 from Ext.trans e29 (Ext.trans e30 (Ext.trans e31 e32)))
          have e2532 := hid (show Ext w25 w32 from Ext.trans e26 (Ext.trans e27 (Ext.trans e28 e2832.out)))
          have hn1 : ((T1.length : Int) != (M.length : Int) - 1) = false := by have := hlaw.out.1; simp; omega
          have hn2 : ((C.length : Int) != (T1.length : Int)) = false := by have := hlaw.out.2.1; simp; omega
          have hM6 := met_len hMt.out
          have hC6 : C.length ≤ 5 := by have := hlaw.out; omega
          clear hf3 hf1
          cases bl with
          | false =>
            as_aux_lemma =>
              go_wp2_with fail
              go_loopw [37] (fun iv wr => ∃ i : Nat, i ≤ C.length ∧ iv = .int .i64 i ∧ Ext w32 wr) (fun iv _ => C.length - (intOf iv).toNat)
              case atStart => exact ⟨0, by omega, rfl, Ext.refl _⟩
              case round =>
                obtain ⟨i, hi, rfl, ei⟩ := hrel
                obtain ⟨wi, rfl⟩ : ∃ y : World, y = wr := ⟨_, rfl⟩
                by_cases hil : i < C.length
                · go_wp2_with fail
                  go_loopw [38] (fun xv wr => ∃ x : Nat, x ≤ M.length ∧ xv = .int .i64 x ∧ Ext wi wr) (fun xv _ => M.length - (intOf xv).toNat)
                  case atStart => exact ⟨0, by omega, rfl, Ext.refl _⟩
                  case round =>
                    obtain ⟨x, hx, rfl, ex⟩ := hrel
                    obtain ⟨wx, rfl⟩ : ∃ y : World, y = wr := ⟨_, rfl⟩
                    have xx := (Ext.trans ei ex).cell x32
                    by_cases hxl : x < M.length
                    · go_wp2_with fail
                      go_loopw [39] (fun yv wr => ∃ y : Nat, y ≤ M.length ∧ yv = .int .i64 y ∧ Ext wx wr) (fun yv _ => M.length - (intOf yv).toNat)
                      case atStart => exact ⟨0, by omega, rfl, Ext.refl _⟩
                      case round =>
                        obtain ⟨y, hy, rfl, ey⟩ := hrel
                        obtain ⟨wy, rfl⟩ : ∃ y : World, y = wr := ⟨_, rfl⟩
                        have e32y : Ext w32 wy := Ext.trans ei (Ext.trans ex ey)
                        have xy := e32y.cell x32
                        clear xx
                        by_cases hyl : y < M.length
                        · have e28y : Ext w28 wy := Ext.trans e2832.out e32y
                          obtain ⟨bC, oC, dC, mC, hdC, hcC, hrC, hlC⟩ := hf3h.out.at (w' := wy) (k := i) hil
                          subst hdC
                          have hT1 : i < T1.length := by have := hlaw.out.2.1; omega
                          obtain ⟨⟨p, q⟩, hpq⟩ : ∃ e, T1[i]? = some e := ⟨_, List.getElem?_eq_getElem hT1⟩
                          have hcut := hid (hlaw.out.2.2.2 i (p, q) x y hpq hxl hyl)
                          have hpqn := hlaw.out.2.2.1 (p, q) (List.mem_of_getElem? hpq)
                          have hH1 := hid (show ∀ u, Ext wy u → Calls Try.prog 20 #[.slice dC (row C i).length mC, .int .i64 x] u fun e w' => e = .returned (.bool (hasB (row C i) x)) ∧ w' = u from fun u e => by
                            have e1 : Ext w28 u := Ext.trans e28y e
                            exact (rHas_any (w0 := w28) (w := u) (x := x) hrC).mono fun _ _ ⟨h1, h2⟩ => ⟨h1, h2.symm⟩)
                          have hH2 := hid (show ∀ u, Ext wy u → Calls Try.prog 20 #[.slice dC (row C i).length mC, .int .i64 y] u fun e w' => e = .returned (.bool (hasB (row C i) y)) ∧ w' = u from fun u e => by
                            have e1 : Ext w28 u := Ext.trans e28y e
                            exact (rHas_any (w0 := w28) (w := u) (x := y) hrC).mono fun _ _ ⟨h1, h2⟩ => ⟨h1, h2.symm⟩)
                          have hrn := hid hrC
                          obtain ⟨bM, oM, bx, ox, mx, hdM, hcx, -, hcxy⟩ := met_cells hMR.out rfl hMt.out hxl
                          cases hdM
                          obtain ⟨bM', oM', bp, op, mp', hdM, hcp, -, hcpq⟩ := met_cells hMR.out rfl hMt.out (x := p) hpqn.1
                          cases hdM
                          obtain ⟨be, oe, hde, hce0, hce1⟩ := edge_at (hf1h.out) (w' := wy) (e := Ext.trans e2532.out e32y) hpq
                          subst hde
                          have e21y : Ext w21 wy := Ext.trans g32 e32y
                          have kx := hcx wy e21y
                          have kxy := hcxy y hyl wy e21y
                          have kp := hcp wy e21y
                          have kpq := hcpq q hpqn.2 wy e21y
                          replace hcx := hid hcx
                          replace hcxy := hid hcxy
                          replace hcp := hid hcp
                          replace hcpq := hid hcpq
                          obtain ⟨hp6, hq6⟩ := hpqn
                          replace hpq := hid hpq
                          by_cases cx : hasB (row C i) x = true
                          · by_cases cy : hasB (row C i) y = true
                            · rw [cx] at hH1
                              rw [cy] at hH2
                              replace cx := hid cx
                              replace cy := hid cy
                              clear hcut
                              go_wp2_with (go_quiet ((go_at_call 20; first | (with_reducible exact Calls.quiet_of_same (hH1.out _ inferInstance)) | (with_reducible exact Calls.quiet_of_same (hH2.out _ inferInstance)))))
                              go_roundw
                              case rel => exact ⟨y + 1, by omega, by go_num, Ext.trans ey inferInstance⟩
                              case measure => simp [intOf]; omega
                            · have cy' : hasB (row C i) y = false := by simpa using cy
                              have hle : cell M p q ≤ cell M x y := hcut.out (hasB_true.1 cx) (fun h => cy (hasB_true.2 h))
                              have hdec : decide (cell M x y < cell M p q) = false := decide_eq_false (by omega)
                              rw [cx] at hH1
                              rw [cy'] at hH2
                              replace cx := hid cx
                              replace cy := hid cy
                              replace cy' := hid cy'
                              go_wp2_with (go_quiet ((go_at_call 20; first | (with_reducible exact Calls.quiet_of_same (hH1.out _ inferInstance)) | (with_reducible exact Calls.quiet_of_same (hH2.out _ inferInstance)))))
                              go_roundw
                              case rel => exact ⟨y + 1, by omega, by go_num, Ext.trans ey inferInstance⟩
                              case measure => simp [intOf]; omega
                          · have cx' : hasB (row C i) x = false := by simpa using cx
                            rw [cx'] at hH1
                            replace cx := hid cx
                            replace cx' := hid cx'
                            clear hcut
                            go_wp2_with (go_quiet ((go_at_call 20; first | (with_reducible exact Calls.quiet_of_same (hH1.out _ inferInstance)) | (with_reducible exact Calls.quiet_of_same (hH2.out _ inferInstance)))))
                            go_roundw
                            case rel => exact ⟨y + 1, by omega, by go_num, Ext.trans ey inferInstance⟩
                            case measure => simp [intOf]; omega
                        · go_wp2_with fail
                          go_roundw
                          case rel => exact ⟨x + 1, by omega, by go_num, Ext.trans ex ey⟩
                          case measure => simp [intOf]; omega
                    · go_wp2_with fail
                      go_roundw
                      case rel => exact ⟨i + 1, by omega, by go_num, Ext.trans ei ex⟩
                      case measure => simp [intOf]; omega
                · go_wp2_with fail
                  go_ret
                  exact ⟨rfl, Ext.trans ew32 ei⟩
          | true =>
            obtain rfl := hlt.out rfl
            as_aux_lemma =>
              go_wp2_with fail
              go_loopw [37] (fun iv wr => ∃ i : Nat, i ≤ C.length ∧ iv = .int .i64 i ∧ Ext w32 wr) (fun iv _ => C.length - (intOf iv).toNat)
              case atStart => exact ⟨0, by omega, rfl, Ext.refl _⟩
              case round =>
                obtain ⟨i, hi, rfl, ei⟩ := hrel
                obtain ⟨wi, rfl⟩ : ∃ y : World, y = wr := ⟨_, rfl⟩
                by_cases hil : i < C.length
                · go_wp2_with fail
                  go_loopw [38] (fun xv wr => ∃ x : Nat, x ≤ M.length ∧ xv = .int .i64 x ∧ Ext wi wr) (fun xv _ => M.length - (intOf xv).toNat)
                  case atStart => exact ⟨0, by omega, rfl, Ext.refl _⟩
                  case round =>
                    obtain ⟨x, hx, rfl, ex⟩ := hrel
                    obtain ⟨wx, rfl⟩ : ∃ y : World, y = wr := ⟨_, rfl⟩
                    have xx := (Ext.trans ei ex).cell x32
                    by_cases hxl : x < M.length
                    · go_wp2_with fail
                      go_loopw [39] (fun yv wr => ∃ y : Nat, y ≤ M.length ∧ yv = .int .i64 y ∧ Ext wx wr) (fun yv _ => M.length - (intOf yv).toNat)
                      case atStart => exact ⟨0, by omega, rfl, Ext.refl _⟩
                      case round =>
                        obtain ⟨y, hy, rfl, ey⟩ := hrel
                        obtain ⟨wy, rfl⟩ : ∃ y : World, y = wr := ⟨_, rfl⟩
                        have e32y : Ext w32 wy := Ext.trans ei (Ext.trans ex ey)
                        have xy := e32y.cell x32
                        clear xx
                        by_cases hyl : y < M.length
                        · have e28y : Ext w28 wy := Ext.trans e2832.out e32y
                          obtain ⟨bC, oC, dC, mC, hdC, hcC, hrC, hlC⟩ := hf3h.out.at (w' := wy) (k := i) hil
                          subst hdC
                          have hT1 : i < T1.length := by have := hlaw.out.2.1; omega
                          obtain ⟨⟨p, q⟩, hpq⟩ : ∃ e, T1[i]? = some e := ⟨_, List.getElem?_eq_getElem hT1⟩
                          have hcut := hid (hlaw.out.2.2.2 i (p, q) x y hpq hxl hyl)
                          have hpqn := hlaw.out.2.2.1 (p, q) (List.mem_of_getElem? hpq)
                          have hH1 := hid (show ∀ u, Ext wy u → Calls Try.prog 20 #[.slice dC (row C i).length mC, .int .i64 x] u fun e w' => e = .returned (.bool (hasB (row C i) x)) ∧ w' = u from fun u e => by
                            have e1 : Ext w28 u := Ext.trans e28y e
                            exact (rHas_any (w0 := w28) (w := u) (x := x) hrC).mono fun _ _ ⟨h1, h2⟩ => ⟨h1, h2.symm⟩)
                          have hH2 := hid (show ∀ u, Ext wy u → Calls Try.prog 20 #[.slice dC (row C i).length mC, .int .i64 y] u fun e w' => e = .returned (.bool (hasB (row C i) y)) ∧ w' = u from fun u e => by
                            have e1 : Ext w28 u := Ext.trans e28y e
                            exact (rHas_any (w0 := w28) (w := u) (x := y) hrC).mono fun _ _ ⟨h1, h2⟩ => ⟨h1, h2.symm⟩)
                          have hrn := hid hrC
                          obtain ⟨bM, oM, bx, ox, mx, hdM, hcx, -, hcxy⟩ := met_cells hMR.out rfl hMt.out hxl
                          cases hdM
                          obtain ⟨bM', oM', bp, op, mp', hdM, hcp, -, hcpq⟩ := met_cells hMR.out rfl hMt.out (x := p) hpqn.1
                          cases hdM
                          obtain ⟨be, oe, hde, hce0, hce1⟩ := edge_at (hf1h.out) (w' := wy) (e := Ext.trans e2532.out e32y) hpq
                          subst hde
                          have e21y : Ext w21 wy := Ext.trans g32 e32y
                          have kx := hcx wy e21y
                          have kxy := hcxy y hyl wy e21y
                          have kp := hcp wy e21y
                          have kpq := hcpq q hpqn.2 wy e21y
                          replace hcx := hid hcx
                          replace hcxy := hid hcxy
                          replace hcp := hid hcp
                          replace hcpq := hid hcpq
                          obtain ⟨hp6, hq6⟩ := hpqn
                          replace hpq := hid hpq
                          by_cases cx : hasB (row C i) x = true
                          · by_cases cy : hasB (row C i) y = true
                            · rw [cx] at hH1
                              rw [cy] at hH2
                              replace cx := hid cx
                              replace cy := hid cy
                              clear hcut
                              go_wp2_with (go_quiet ((go_at_call 20; first | (with_reducible exact Calls.quiet_of_same (hH1.out _ inferInstance)) | (with_reducible exact Calls.quiet_of_same (hH2.out _ inferInstance)))))
                              go_roundw
                              case rel => exact ⟨y + 1, by omega, by go_num, Ext.trans ey inferInstance⟩
                              case measure => simp [intOf]; omega
                            · have cy' : hasB (row C i) y = false := by simpa using cy
                              have hle : cell M p q ≤ cell M x y := hcut.out (hasB_true.1 cx) (fun h => cy (hasB_true.2 h))
                              have hdec : decide (cell M x y < cell M p q) = false := decide_eq_false (by omega)
                              rw [cx] at hH1
                              rw [cy'] at hH2
                              replace cx := hid cx
                              replace cy := hid cy
                              replace cy' := hid cy'
                              go_wp2_with (go_quiet ((go_at_call 20; first | (with_reducible exact Calls.quiet_of_same (hH1.out _ inferInstance)) | (with_reducible exact Calls.quiet_of_same (hH2.out _ inferInstance)))))
                              go_roundw
                              case rel => exact ⟨y + 1, by omega, by go_num, Ext.trans ey inferInstance⟩
                              case measure => simp [intOf]; omega
                          · have cx' : hasB (row C i) x = false := by simpa using cx
                            rw [cx'] at hH1
                            replace cx := hid cx
                            replace cx' := hid cx'
                            clear hcut
                            go_wp2_with (go_quiet ((go_at_call 20; first | (with_reducible exact Calls.quiet_of_same (hH1.out _ inferInstance)) | (with_reducible exact Calls.quiet_of_same (hH2.out _ inferInstance)))))
                            go_roundw
                            case rel => exact ⟨y + 1, by omega, by go_num, Ext.trans ey inferInstance⟩
                            case measure => simp [intOf]; omega
                        · go_wp2_with fail
                          go_roundw
                          case rel => exact ⟨x + 1, by omega, by go_num, Ext.trans ex ey⟩
                          case measure => simp [intOf]; omega
                    · go_wp2_with fail
                      go_roundw
                      case rel => exact ⟨i + 1, by omega, by go_num, Ext.trans ei ex⟩
                      case measure => simp [intOf]; omega
                · go_wp2_with fail
                  go_ret
                  exact ⟨rfl, Ext.trans ew32 ei⟩
    | true =>
      have hq := hid hQ.out.symm
      have hMt := hid (tl_met hq.out)
      have hF4 := hid (tl_four hq.out)
      go_wp2_with fail
      with_reducible refine (implTL_any (w0 := w5) (w := w6) hM25).mono ?_
      rintro e w7 ⟨b, he7, hb, e7⟩
      rw [hMt.out] at he7
      obtain rfl := hb hMt.out hF4.out
      subst he7
      have x7 := e7.cell x6
      have e57 : Ext w5 w7 := Ext.trans e6 e7
      clear x6 hb hF4
      go_wp2_with fail
      go_loopw [11, 13] (fun sv iv wr => ∃ i : Nat, i ≤ L.length ∧ sv = .int .i64 (suL L i) ∧ iv = .int .i64 i ∧ Ext w7 wr) (fun _ iv _ => L.length - (intOf iv).toNat)
      case atStart => exact ⟨0, by omega, rfl, rfl, Ext.refl _⟩
      case round =>
        obtain ⟨i, hi, rfl, rfl, eo⟩ := hrel
        obtain ⟨wo, rfl⟩ : ∃ y : World, y = wr := ⟨_, rfl⟩
        have e5o : Ext w5 wo := Ext.trans e57 eo
        by_cases hlt : i < L.length
        · obtain ⟨bL, oL, hdl, hcL⟩ := hL5.at (w' := wo) hlt
          subst hdl
          have h1 := suL_le hq.out i hi
          have h2 := (tl_small hq.out).2 i hlt
          have hsu := hid (suL_succ (L := L) (i := i))
          generalize nth L i = x at *
          generalize suL L i = s at *
          go_wp2_with fail
          go_roundw
          case rel => exact ⟨i + 1, by omega, by rw [hsu.out], by go_num, eo⟩
          case measure => simp [intOf]; omega
        · have hil : i = L.length := by omega
          subst hil
          have x8 := eo.cell x7
          clear x7
          go_wp2_with fail
          with_reducible refine (implST_any (w0 := w5) (w := wo) hM25).mono ?_
          rintro e w9 ⟨dT, mT, T0, s0, he9, hs0, -, e9⟩
          rw [hMt.out] at he9
          subst he9
          have hs := tl_sum hq.out hs0
          rw [← hs]
          have hss : (s0 != s0) = false := by simp
          have ew9 : Ext w w9 := Ext.trans (Ext.trans ew6 e7) (Ext.trans eo e9)
          replace hs := hid hs
          replace hs0 := hid hs0
          as_aux_lemma =>
            have g20 : Ext w w9 := ew9
            go_wp2_with fail
            with_reducible refine (drawIS_any (w0 := w) (w := w9) hc').mono ?_
            rintro e w21 ⟨d, m, tv, M, T, rfl, hMok, hTl, hM, hT, e21⟩
            obtain ⟨dt, mt, rfl, lt⟩ := hT.form
            have g21 : Ext w w21 := Ext.trans g20 e21
            go_upto_region 19 with fail
            have g22 : Ext w21 (w21.alloc (.cells #[.slice d M.length m] 29)) := inferInstance
            have x22 : (w21.alloc (.cells #[.slice d M.length m] 29)).cell? ⟨w21.heap.size, 0, none⟩ = some (.slice d M.length m) := by go_simp
            obtain ⟨b17, hb17⟩ : ∃ r, r = w21.heap.size := ⟨_, rfl⟩
            rw [← hb17] at x22 ⊢
            replace hb17 := hid hb17
            generalize w21.alloc (.cells #[.slice d M.length m] 29) = w22 at *
            obtain ⟨I, hI⟩ : ∃ q, q = isI M T := ⟨_, rfl⟩
            obtain ⟨O, hO⟩ : ∃ q, q = okI M T := ⟨_, rfl⟩
            obtain ⟨N, hN⟩ : ∃ q, q = metB M := ⟨_, rfl⟩
            replace hI := hid hI
            replace hO := hid hO
            replace hN := hid hN
            go_wp2_with fail
            with_reducible refine (implIS_any (w0 := w21) (w := w22) hM hT).mono ?_
            rintro e w23 ⟨he23, e23⟩
            rw [← hI.out, ← hO.out] at he23
            subst he23
            have x23 := e23.cell x22
            have g23 : Ext w21 w23 := Ext.trans g22 e23
            clear x22
            go_wp2_with fail
            with_reducible refine (specIS_any (w0 := w21) (w := w23) hM hT).mono ?_
            rintro e w24 ⟨he24, e24⟩
            rw [← hI.out, ← hO.out] at he24
            subst he24
            have x24 := e24.cell x23
            have g24 : Ext w21 w24 := Ext.trans g23 e24
            have hII : (I != I) = false := by simp
            have hOO : (O != O) = false := by simp
            clear x23
            go_wp2_with fail
            with_reducible refine (implST_any (w0 := w21) (w := w24) hM).mono ?_
            rintro e w25 ⟨d1, m1, T1, s1, he25, hs1, hf1, e25⟩
            rw [← hN.out] at he25
            subst he25
            have x25 := e25.cell x24
            have g25 : Ext w21 w25 := Ext.trans g24 e25
            replace hs1 := hid hs1
            clear x24 hII hOO
            go_wp2_with fail
            with_reducible refine (specST_any (w0 := w21) (w := w25) hM).mono ?_
            rintro e w26 ⟨d2, m2, T2, s2, he26, hs2, hf2, e26⟩
            rw [← hN.out] at he26
            subst he26
            obtain ⟨rfl, rfl⟩ := hs1.out.uniq hs2
            have x26 := e26.cell x25
            have g26 : Ext w21 w26 := Ext.trans g25 e26
            have hf1' := hf1.ext (w' := w26)
            have hNN : (N != N) = false := by simp
            have hSS : (s1 != s1) = false := by simp
            clear x25 hs2
            go_wp2_with fail
            with_reducible refine (rPairs_l (w0 := w26) (w := w26) hf1' hf2).mono ?_
            rintro e w27 ⟨rfl, e27⟩
            have x27 := e27.cell x26
            have g27 : Ext w21 w27 := Ext.trans g26 e27
            clear x26 hf2 hSS
            go_wp2_with fail
            with_reducible refine (implCT_any (w0 := w21) (w := w27) hM).mono ?_
            rintro e w28 ⟨d3, m3, C, he28, hC, hf3, e28⟩
            rw [← hN.out] at he28
            subst he28
            have x28 := e28.cell x27
            have g28 : Ext w21 w28 := Ext.trans g27 e28
            replace hC := hid hC
            clear x27
            go_wp2_with fail
            with_reducible refine (specCT_any (w0 := w21) (w := w28) hM).mono ?_
            rintro e w29 ⟨d4, m4, C2, he29, hC2, hf4, e29⟩
            rw [← hN.out] at he29
            subst he29
            obtain rfl := hC.out.uniq hC2
            have x29 := e29.cell x28
            have g29 : Ext w21 w29 := Ext.trans g28 e29
            have hf3' := hf3.ext (w' := w29)
            clear x28 hC2
            go_wp2_with fail
            with_reducible refine (rTable_l (w0 := w29) (w := w29) hf3' hf4).mono ?_
            rintro e w30 ⟨rfl, e30⟩
            have x30 := e30.cell x29
            have g30 : Ext w21 w30 := Ext.trans g29 e30
            clear x29 hf4 hNN
            cases N with
            | false =>
              go_wp2_with fail
              go_ret
              exact ⟨rfl, Ext.trans g21 g30⟩
            | true =>
              have hMt := hid hN.out.symm
              go_wp2_with fail
              with_reducible refine (implLL_any (w0 := w21) (w := w30) hM).mono ?_
              rintro e w31 ⟨bl, he31, hbl, e31⟩
              rw [hMt.out] at he31
              subst he31
              have x31 := e31.cell x30
              have g31 : Ext w21 w31 := Ext.trans g30 e31
              replace hbl := hid hbl
              clear x30
              go_wp2_with fail
              with_reducible refine (implTL_any (w0 := w21) (w := w31) hM).mono ?_
              rintro e w32 ⟨bt, he32, hbt, e32⟩
              rw [hMt.out] at he32
              subst he32
              have x32 := e32.cell x31
              have g32 : Ext w21 w32 := Ext.trans g31 e32
              have hlt := hid (show bl = true → bt = true from fun h => by
                obtain ⟨p, hp⟩ := hbl.out h
                exact hbt hMt.out (ll_four hp))
              clear x31 hbt
              have hlaw := hid (ct_law hMt.out hs1.out hC.out)
              have hMR := hid (show IsRows w21 (.slice d M.length m) M from by obtain ⟨vM, hvM, hMR⟩ := hM; cases hvM; exact hMR)
              have hf3h := hid hf3
              have hf1h := hid hf1
              have ew32 : Ext w w32 := Ext.trans g21 g32
              have e2832 := hid (show Ext w28 w32 from Ext.trans e29 (Ext.trans e30 (Ext.trans e31 e32)))
              have e2532 := hid (show Ext w25 w32 from Ext.trans e26 (Ext.trans e27 (Ext.trans e28 e2832.out)))
              have hn1 : ((T1.length : Int) != (M.length : Int) - 1) = false := by have := hlaw.out.1; simp; omega
              have hn2 : ((C.length : Int) != (T1.length : Int)) = false := by have := hlaw.out.2.1; simp; omega
              have hM6 := met_len hMt.out
              have hC6 : C.length ≤ 5 := by have := hlaw.out; omega
              clear hf3 hf1
              cases bl with
              | false =>
                as_aux_lemma =>
                  go_wp2_with fail
                  go_loopw [37] (fun iv wr => ∃ i : Nat, i ≤ C.length ∧ iv = .int .i64 i ∧ Ext w32 wr) (fun iv _ => C.length - (intOf iv).toNat)
                  case atStart => exact ⟨0, by omega, rfl, Ext.refl _⟩
                  case round =>
                    obtain ⟨i, hi, rfl, ei⟩ := hrel
                    obtain ⟨wi, rfl⟩ : ∃ y : World, y = wr := ⟨_, rfl⟩
                    by_cases hil : i < C.length
                    · go_wp2_with fail
                      go_loopw [38] (fun xv wr => ∃ x : Nat, x ≤ M.length ∧ xv = .int .i64 x ∧ Ext wi wr) (fun xv _ => M.length - (intOf xv).toNat)
                      case atStart => exact ⟨0, by omega, rfl, Ext.refl _⟩
                      case round =>
                        obtain ⟨x, hx, rfl, ex⟩ := hrel
                        obtain ⟨wx, rfl⟩ : ∃ y : World, y = wr := ⟨_, rfl⟩
                        have xx := (Ext.trans ei ex).cell x32
                        by_cases hxl : x < M.length
                        · go_wp2_with fail
                          go_loopw [39] (fun yv wr => ∃ y : Nat, y ≤ M.length ∧ yv = .int .i64 y ∧ Ext wx wr) (fun yv _ => M.length - (intOf yv).toNat)
                          case atStart => exact ⟨0, by omega, rfl, Ext.refl _⟩
                          case round =>
                            obtain ⟨y, hy, rfl, ey⟩ := hrel
                            obtain ⟨wy, rfl⟩ : ∃ y : World, y = wr := ⟨_, rfl⟩
                            have e32y : Ext w32 wy := Ext.trans ei (Ext.trans ex ey)
                            have xy := e32y.cell x32
                            clear xx
                            by_cases hyl : y < M.length
                            · have e28y : Ext w28 wy := Ext.trans e2832.out e32y
                              obtain ⟨bC, oC, dC, mC, hdC, hcC, hrC, hlC⟩ := hf3h.out.at (w' := wy) (k := i) hil
                              subst hdC
                              have hT1 : i < T1.length := by have := hlaw.out.2.1; omega
                              obtain ⟨⟨p, q⟩, hpq⟩ : ∃ e, T1[i]? = some e := ⟨_, List.getElem?_eq_getElem hT1⟩
                              have hcut := hid (hlaw.out.2.2.2 i (p, q) x y hpq hxl hyl)
                              have hpqn := hlaw.out.2.2.1 (p, q) (List.mem_of_getElem? hpq)
                              have hH1 := hid (show ∀ u, Ext wy u → Calls Try.prog 20 #[.slice dC (row C i).length mC, .int .i64 x] u fun e w' => e = .returned (.bool (hasB (row C i) x)) ∧ w' = u from fun u e => by
                                have e1 : Ext w28 u := Ext.trans e28y e
                                exact (rHas_any (w0 := w28) (w := u) (x := x) hrC).mono fun _ _ ⟨h1, h2⟩ => ⟨h1, h2.symm⟩)
                              have hH2 := hid (show ∀ u, Ext wy u → Calls Try.prog 20 #[.slice dC (row C i).length mC, .int .i64 y] u fun e w' => e = .returned (.bool (hasB (row C i) y)) ∧ w' = u from fun u e => by
                                have e1 : Ext w28 u := Ext.trans e28y e
                                exact (rHas_any (w0 := w28) (w := u) (x := y) hrC).mono fun _ _ ⟨h1, h2⟩ => ⟨h1, h2.symm⟩)
                              have hrn := hid hrC
                              obtain ⟨bM, oM, bx, ox, mx, hdM, hcx, -, hcxy⟩ := met_cells hMR.out rfl hMt.out hxl
                              cases hdM
                              obtain ⟨bM', oM', bp, op, mp', hdM, hcp, -, hcpq⟩ := met_cells hMR.out rfl hMt.out (x := p) hpqn.1
                              cases hdM
                              obtain ⟨be, oe, hde, hce0, hce1⟩ := edge_at (hf1h.out) (w' := wy) (e := Ext.trans e2532.out e32y) hpq
                              subst hde
                              have e21y : Ext w21 wy := Ext.trans g32 e32y
                              have kx := hcx wy e21y
                              have kxy := hcxy y hyl wy e21y
                              have kp := hcp wy e21y
                              have kpq := hcpq q hpqn.2 wy e21y
                              replace hcx := hid hcx
                              replace hcxy := hid hcxy
                              replace hcp := hid hcp
                              replace hcpq := hid hcpq
                              obtain ⟨hp6, hq6⟩ := hpqn
                              replace hpq := hid hpq
                              by_cases cx : hasB (row C i) x = true
                              · by_cases cy : hasB (row C i) y = true
                                · rw [cx] at hH1
                                  rw [cy] at hH2
                                  replace cx := hid cx
                                  replace cy := hid cy
                                  clear hcut
                                  go_wp2_with (go_quiet ((go_at_call 20; first | (with_reducible exact Calls.quiet_of_same (hH1.out _ inferInstance)) | (with_reducible exact Calls.quiet_of_same (hH2.out _ inferInstance)))))
                                  go_roundw
                                  case rel => exact ⟨y + 1, by omega, by go_num, Ext.trans ey inferInstance⟩
                                  case measure => simp [intOf]; omega
                                · have cy' : hasB (row C i) y = false := by simpa using cy
                                  have hle : cell M p q ≤ cell M x y := hcut.out (hasB_true.1 cx) (fun h => cy (hasB_true.2 h))
                                  have hdec : decide (cell M x y < cell M p q) = false := decide_eq_false (by omega)
                                  rw [cx] at hH1
                                  rw [cy'] at hH2
                                  replace cx := hid cx
                                  replace cy := hid cy
                                  replace cy' := hid cy'
                                  go_wp2_with (go_quiet ((go_at_call 20; first | (with_reducible exact Calls.quiet_of_same (hH1.out _ inferInstance)) | (with_reducible exact Calls.quiet_of_same (hH2.out _ inferInstance)))))
                                  go_roundw
                                  case rel => exact ⟨y + 1, by omega, by go_num, Ext.trans ey inferInstance⟩
                                  case measure => simp [intOf]; omega
                              · have cx' : hasB (row C i) x = false := by simpa using cx
                                rw [cx'] at hH1
                                replace cx := hid cx
                                replace cx' := hid cx'
                                clear hcut
                                go_wp2_with (go_quiet ((go_at_call 20; first | (with_reducible exact Calls.quiet_of_same (hH1.out _ inferInstance)) | (with_reducible exact Calls.quiet_of_same (hH2.out _ inferInstance)))))
                                go_roundw
                                case rel => exact ⟨y + 1, by omega, by go_num, Ext.trans ey inferInstance⟩
                                case measure => simp [intOf]; omega
                            · go_wp2_with fail
                              go_roundw
                              case rel => exact ⟨x + 1, by omega, by go_num, Ext.trans ex ey⟩
                              case measure => simp [intOf]; omega
                        · go_wp2_with fail
                          go_roundw
                          case rel => exact ⟨i + 1, by omega, by go_num, Ext.trans ei ex⟩
                          case measure => simp [intOf]; omega
                    · go_wp2_with fail
                      go_ret
                      exact ⟨rfl, Ext.trans ew32 ei⟩
              | true =>
                obtain rfl := hlt.out rfl
                as_aux_lemma =>
                  go_wp2_with fail
                  go_loopw [37] (fun iv wr => ∃ i : Nat, i ≤ C.length ∧ iv = .int .i64 i ∧ Ext w32 wr) (fun iv _ => C.length - (intOf iv).toNat)
                  case atStart => exact ⟨0, by omega, rfl, Ext.refl _⟩
                  case round =>
                    obtain ⟨i, hi, rfl, ei⟩ := hrel
                    obtain ⟨wi, rfl⟩ : ∃ y : World, y = wr := ⟨_, rfl⟩
                    by_cases hil : i < C.length
                    · go_wp2_with fail
                      go_loopw [38] (fun xv wr => ∃ x : Nat, x ≤ M.length ∧ xv = .int .i64 x ∧ Ext wi wr) (fun xv _ => M.length - (intOf xv).toNat)
                      case atStart => exact ⟨0, by omega, rfl, Ext.refl _⟩
                      case round =>
                        obtain ⟨x, hx, rfl, ex⟩ := hrel
                        obtain ⟨wx, rfl⟩ : ∃ y : World, y = wr := ⟨_, rfl⟩
                        have xx := (Ext.trans ei ex).cell x32
                        by_cases hxl : x < M.length
                        · go_wp2_with fail
                          go_loopw [39] (fun yv wr => ∃ y : Nat, y ≤ M.length ∧ yv = .int .i64 y ∧ Ext wx wr) (fun yv _ => M.length - (intOf yv).toNat)
                          case atStart => exact ⟨0, by omega, rfl, Ext.refl _⟩
                          case round =>
                            obtain ⟨y, hy, rfl, ey⟩ := hrel
                            obtain ⟨wy, rfl⟩ : ∃ y : World, y = wr := ⟨_, rfl⟩
                            have e32y : Ext w32 wy := Ext.trans ei (Ext.trans ex ey)
                            have xy := e32y.cell x32
                            clear xx
                            by_cases hyl : y < M.length
                            · have e28y : Ext w28 wy := Ext.trans e2832.out e32y
                              obtain ⟨bC, oC, dC, mC, hdC, hcC, hrC, hlC⟩ := hf3h.out.at (w' := wy) (k := i) hil
                              subst hdC
                              have hT1 : i < T1.length := by have := hlaw.out.2.1; omega
                              obtain ⟨⟨p, q⟩, hpq⟩ : ∃ e, T1[i]? = some e := ⟨_, List.getElem?_eq_getElem hT1⟩
                              have hcut := hid (hlaw.out.2.2.2 i (p, q) x y hpq hxl hyl)
                              have hpqn := hlaw.out.2.2.1 (p, q) (List.mem_of_getElem? hpq)
                              have hH1 := hid (show ∀ u, Ext wy u → Calls Try.prog 20 #[.slice dC (row C i).length mC, .int .i64 x] u fun e w' => e = .returned (.bool (hasB (row C i) x)) ∧ w' = u from fun u e => by
                                have e1 : Ext w28 u := Ext.trans e28y e
                                exact (rHas_any (w0 := w28) (w := u) (x := x) hrC).mono fun _ _ ⟨h1, h2⟩ => ⟨h1, h2.symm⟩)
                              have hH2 := hid (show ∀ u, Ext wy u → Calls Try.prog 20 #[.slice dC (row C i).length mC, .int .i64 y] u fun e w' => e = .returned (.bool (hasB (row C i) y)) ∧ w' = u from fun u e => by
                                have e1 : Ext w28 u := Ext.trans e28y e
                                exact (rHas_any (w0 := w28) (w := u) (x := y) hrC).mono fun _ _ ⟨h1, h2⟩ => ⟨h1, h2.symm⟩)
                              have hrn := hid hrC
                              obtain ⟨bM, oM, bx, ox, mx, hdM, hcx, -, hcxy⟩ := met_cells hMR.out rfl hMt.out hxl
                              cases hdM
                              obtain ⟨bM', oM', bp, op, mp', hdM, hcp, -, hcpq⟩ := met_cells hMR.out rfl hMt.out (x := p) hpqn.1
                              cases hdM
                              obtain ⟨be, oe, hde, hce0, hce1⟩ := edge_at (hf1h.out) (w' := wy) (e := Ext.trans e2532.out e32y) hpq
                              subst hde
                              have e21y : Ext w21 wy := Ext.trans g32 e32y
                              have kx := hcx wy e21y
                              have kxy := hcxy y hyl wy e21y
                              have kp := hcp wy e21y
                              have kpq := hcpq q hpqn.2 wy e21y
                              replace hcx := hid hcx
                              replace hcxy := hid hcxy
                              replace hcp := hid hcp
                              replace hcpq := hid hcpq
                              obtain ⟨hp6, hq6⟩ := hpqn
                              replace hpq := hid hpq
                              by_cases cx : hasB (row C i) x = true
                              · by_cases cy : hasB (row C i) y = true
                                · rw [cx] at hH1
                                  rw [cy] at hH2
                                  replace cx := hid cx
                                  replace cy := hid cy
                                  clear hcut
                                  go_wp2_with (go_quiet ((go_at_call 20; first | (with_reducible exact Calls.quiet_of_same (hH1.out _ inferInstance)) | (with_reducible exact Calls.quiet_of_same (hH2.out _ inferInstance)))))
                                  go_roundw
                                  case rel => exact ⟨y + 1, by omega, by go_num, Ext.trans ey inferInstance⟩
                                  case measure => simp [intOf]; omega
                                · have cy' : hasB (row C i) y = false := by simpa using cy
                                  have hle : cell M p q ≤ cell M x y := hcut.out (hasB_true.1 cx) (fun h => cy (hasB_true.2 h))
                                  have hdec : decide (cell M x y < cell M p q) = false := decide_eq_false (by omega)
                                  rw [cx] at hH1
                                  rw [cy'] at hH2
                                  replace cx := hid cx
                                  replace cy := hid cy
                                  replace cy' := hid cy'
                                  go_wp2_with (go_quiet ((go_at_call 20; first | (with_reducible exact Calls.quiet_of_same (hH1.out _ inferInstance)) | (with_reducible exact Calls.quiet_of_same (hH2.out _ inferInstance)))))
                                  go_roundw
                                  case rel => exact ⟨y + 1, by omega, by go_num, Ext.trans ey inferInstance⟩
                                  case measure => simp [intOf]; omega
                              · have cx' : hasB (row C i) x = false := by simpa using cx
                                rw [cx'] at hH1
                                replace cx := hid cx
                                replace cx' := hid cx'
                                clear hcut
                                go_wp2_with (go_quiet ((go_at_call 20; first | (with_reducible exact Calls.quiet_of_same (hH1.out _ inferInstance)) | (with_reducible exact Calls.quiet_of_same (hH2.out _ inferInstance)))))
                                go_roundw
                                case rel => exact ⟨y + 1, by omega, by go_num, Ext.trans ey inferInstance⟩
                                case measure => simp [intOf]; omega
                            · go_wp2_with fail
                              go_roundw
                              case rel => exact ⟨x + 1, by omega, by go_num, Ext.trans ex ey⟩
                              case measure => simp [intOf]; omega
                        · go_wp2_with fail
                          go_roundw
                          case rel => exact ⟨i + 1, by omega, by go_num, Ext.trans ei ex⟩
                          case measure => simp [intOf]; omega
                    · go_wp2_with fail
                      go_ret
                      exact ⟨rfl, Ext.trans ew32 ei⟩
end Go.Proofs.Ytnlbjbnjjkilhaa
