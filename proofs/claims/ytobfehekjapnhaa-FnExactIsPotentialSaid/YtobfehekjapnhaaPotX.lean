/- IsPotential of both sides. -/
import Derived.Test.YtobfehekjapnhaaPot
namespace Go.Proofs.Ytobfehekjapnhaa
open Go.RowKit

def prMn (M S N : List (List Int)) (s : Int) : Nat := (prEnd (grOf M S N s.toNat (offN M S s)) s.toNat).getD 0
def ptG (M S N : List (List Int)) (s n d : Int) : Bool := prB M S N s && ratioB n d
def ptT (M S N : List (List Int)) (s : Int) (T : List Int) : Bool := tabB (prMn M S N s) T
def ptK (M S N : List (List Int)) (s n d : Int) (T : List Int) : Int := brI (grOf M S N s.toNat (offN M S s)) s.toNat (prMn M S N s) n d T
def ptB (M S N : List (List Int)) (s n d : Int) (T : List Int) : Bool := ptG M S N s n d && (ptT M S N s T && decide (ptK M S N s n d T < 0))
theorem ptG_a {M S N : List (List Int)} {s n d : Int} (h : prB M S N s = false) : ptG M S N s n d = false := by simp [ptG, h]
theorem ptG_b {M S N : List (List Int)} {s n d : Int} (h : ratioB n d = false) : ptG M S N s n d = false := by simp [ptG, h]
theorem ptB_no {M S N : List (List Int)} {s n d : Int} {T : List Int} (h : ptG M S N s n d = false) : ptB M S N s n d T = false := by simp [ptB, h]
theorem ptB_tab {M S N : List (List Int)} {s n d : Int} {T : List Int} (h : ptT M S N s T = false) : ptB M S N s n d T = false := by simp [ptB, h]
theorem ptB_end {M S N : List (List Int)} {s n d : Int} {T : List Int} (h : ptG M S N s n d = true) (h2 : ptT M S N s T = true) : ptB M S N s n d T = decide (ptK M S N s n d T < 0) := by simp [ptB, h, h2]

set_option maxHeartbeats 1600000 in
set_option maxRecDepth 100000 in
theorem specIP_any {v vN vT : Value} {M S N : List (List Int)} {T : List Int} {s n d : Int} {w0 w : World} [Ext w0 w] (hp : IsProb w0 v M S) (hN : IsRows w0 vN N) (_hs : I64 s) (hT : IsInts w0 vT T) :
    Calls Try.prog 34 #[v, vN, .int .i64 s, .agg #[.int .i64 n, .int .i64 d], vT] w fun e w' => e = .returned (.tuple #[.bool (ptB M S N s n d T), .bool (ptG M S N s n d)]) ∧ Ext w w' := by
  have hp' := hp
  obtain ⟨v1, v2, rfl, hM, hS⟩ := hp
  have hM' := hM
  have hS' := hS
  obtain ⟨a1, c1, rfl, l1⟩ := hM.form
  obtain ⟨a2, c2, rfl, l2⟩ := hS.form
  have hN' := hN
  obtain ⟨aN, cN, rfl, lN⟩ := hN.form
  have hT' := hT
  obtain ⟨aT, cT, rfl, lT⟩ := hT.form
  obtain ⟨W, hW⟩ : ∃ W, W = (w.alloc (.cells #[.slice a1 M.length c1, .slice a2 S.length c2] 29)).alloc (.cells #[.int .i64 n, .int .i64 d] 39) := ⟨_, rfl⟩
  have eW : Ext w W := by rw [hW]; infer_instance
  have k0 : W.cell? ⟨w.heap.size, 0, none⟩ = some (.slice a1 M.length c1) := by rw [hW]; go_simp
  have k1 : W.cell? ⟨w.heap.size, 1, none⟩ = some (.slice a2 S.length c2) := by rw [hW]; go_simp
  have j0 : W.cell? ⟨w.heap.size + 1, 0, none⟩ = some (.int .i64 n) := by rw [hW]; go_simp
  have j1 : W.cell? ⟨w.heap.size + 1, 1, none⟩ = some (.int .i64 d) := by rw [hW]; go_simp
  have eW0 : Ext w0 W := Ext.trans ‹Ext w0 w› eW
  go_enter Try.func34, Try.ntmps34
  go_upto_region 1 with fail
  rw [← hW]
  clear hW
  go_wp2_with fail
  refine (l9Get_any (w0 := w0) hp' hN').mono ?_
  rintro e w2 ⟨hpost, hb2⟩
  have e2 : Ext W w2 := hb2
  rcases hpost with ⟨hno, d1, n1, m1, d2, n2, m2, bb, rfl⟩ | ⟨nn, m, hal, hoff, hend, pd, pm, sd, sm, rfl, hL, hMs⟩
  · have hr := hid (ptG_a (n := n) (d := d) hno)
    have hz := hid (ptB_no (T := T) hr.out)
    clear hno
    go_wp2_with fail
    go_ret2
    rw [hz.out, hr.out]
    exact ⟨rfl, by first | exact Ext.trans eW e2 | exact Ext.trans eW (Ext.trans e2 inferInstance)⟩
  · have hgk := hid (gr_ok (algOk_parts hal).1 (algOk_parts hal).2 hoff)
    have hgd : grOf M S N s.toNat nn = ⟨M, S, N, offStp M S s.toNat nn, offGrw M S s.toNat nn⟩ := rfl
    rw [← hgd] at hgk
    clear hgd
    have hsI := startB_state (algOk_parts hal).1
    have hsM : s.toNat < (grOf M S N s.toNat nn).M.length := by show s.toNat < M.length; omega
    have hpos := prEnd_pos hend
    have hprb := hid (prB_some hal hoff hend)
    have hgS : (grOf M S N s.toNat nn).S = S := rfl
    have hgo : grOf M S N s.toNat (offN M S s) = grOf M S N s.toNat nn := by rw [offN_some hoff]
    have hpl := hid (show (prLst (grOf M S N s.toNat nn) s.toNat m).length = m from (prEnd_some hgk.out hsM hend).1)
    have hm6 := (prEnd_some hgk.out hsM hend).2.1
    have hG1 := hid (show ptG M S N s n d = ratioB n d by rw [ptG, hprb.out, Bool.true_and])
    have hMn : prMn M S N s = m := by rw [prMn, hgo, hend]; rfl
    have hT1 := hid (show ptT M S N s T = tabB (prLst (grOf M S N s.toNat nn) s.toNat m).length T by rw [ptT, hMn, hpl.out])
    have hK1 := hid (show ptK M S N s n d T = brI (grOf M S N s.toNat nn) s.toNat m n d T by rw [ptK, hMn, hgo])
    clear hMn
    clear hsI
    obtain ⟨wg, hwg⟩ : ∃ wg, wg = w2.alloc (.cells #[.slice pd (prLst (grOf M S N s.toNat nn) s.toNat m).length pm, .slice sd (prSt (grOf M S N s.toNat nn) s.toNat m).length sm, .bool false] 76) := ⟨_, rfl⟩
    have eg2 : Ext w2 wg := by rw [hwg]; infer_instance
    have b0 : wg.cell? ⟨w2.heap.size, 0, none⟩ = some (.slice pd (prLst (grOf M S N s.toNat nn) s.toNat m).length pm) := by rw [hwg]; go_simp
    have b1 : wg.cell? ⟨w2.heap.size, 1, none⟩ = some (.slice sd (prSt (grOf M S N s.toNat nn) s.toNat m).length sm) := by rw [hwg]; go_simp
    have b2 : wg.cell? ⟨w2.heap.size, 2, none⟩ = some (.bool false) := by rw [hwg]; go_simp
    have eg : Ext W wg := Ext.trans e2 eg2
    have hMg := hMs.ext (w' := wg)
    have g0 := eg.cell k0
    have g1 := eg.cell k1
    have i0 := eg.cell j0
    have i1 := eg.cell j1
    have e0g : Ext w0 wg := Ext.trans eW0 eg
    have ewg : Ext w wg := Ext.trans eW eg
    replace hoff := hid hoff
    replace hend := hid hend
    replace hal := hid hal
    replace hgo := hid hgo
    replace hgS := hid hgS
    go_upto_region 2 with fail
    rw [← hwg]
    clear hwg
    cases hq1 : ratioB n d with
    | false =>
      have hr := hid (ptG_b (M := M) (S := S) (N := N) (s := s) hq1)
      have hz := hid (ptB_no (T := T) hr.out)
      replace hq1 := hid hq1
      go_wp2_with fail
      refine (l9Ratio_any _).mono ?_; rw [hq1.out]; rintro e w3 ⟨rfl, hb3⟩
      have e3 : Ext wg w3 := hb3
      go_wp2_with fail
      go_ret2
      rw [hz.out, hr.out]
      exact ⟨rfl, by first | exact Ext.trans ewg e3⟩
    | true =>
      have hGy := hid (show ptG M S N s n d = true by rw [hG1.out]; exact hq1)
      have hQ1 := hid hq1
      replace hq1 := hid hq1
      generalize grOf M S N s.toNat nn = g at *
      cases hq2 : tabB (prLst g s.toNat m).length T with
      | false =>
        have hr := hid (ptB_tab (n := n) (d := d) (show ptT M S N s T = false by rw [hT1.out]; exact hq2))
        replace hq2 := hid hq2
        go_wp2_with fail
        refine (l9Ratio_any _).mono ?_; rw [hq1.out]; rintro e w3 ⟨rfl, hb3⟩
        have e3 : Ext wg w3 := hb3
        have h30 := e3.cell b0
        have h31 := e3.cell b1
        have h32 := e3.cell b2
        have e03 : Ext w0 w3 := Ext.trans e0g e3
        go_wp2_with fail
        refine (l9Table_any (w0 := w0) hT').mono ?_; rw [hq2.out]; rintro e w4 ⟨rfl, hb4⟩
        have e4 : Ext wg w4 := Ext.trans e3 hb4
        go_wp2_with fail
        go_ret2
        rw [hr.out, hGy.out]
        exact ⟨rfl, Ext.trans ewg e4⟩
      | true =>
        have hQ2 := hid (show tabB m T = true by rw [← hpl.out]; exact hq2)
        have hB := hid (ptB_end hGy.out (show ptT M S N s T = true by rw [hT1.out]; exact hq2))
        replace hq2 := hid hq2
        go_wp2_with fail
        refine (l9Ratio_any _).mono ?_; rw [hq1.out]; rintro e w3 ⟨rfl, hb3⟩
        have e3 : Ext wg w3 := hb3
        have h30 := e3.cell b0
        have h31 := e3.cell b1
        have h32 := e3.cell b2
        have i30 := e3.cell i0
        have i31 := e3.cell i1
        have e03 : Ext w0 w3 := Ext.trans e0g e3
        go_wp2_with fail
        refine (l9Table_any (w0 := w0) hT').mono ?_; rw [hq2.out]; rintro e w4 ⟨rfl, hb4⟩
        have e4 : Ext wg w4 := Ext.trans e3 hb4
        have h40 := hb4.cell h30
        have h41 := hb4.cell h31
        have h42 := hb4.cell h32
        have i40 := hb4.cell i30
        have i41 := hb4.cell i31
        have e04 : Ext w0 w4 := Ext.trans e0g e4
        go_wp2_with fail
        refine (l9Broken_any (w0 := wg) hgk.out hsM hend.out hMg (hT'.ext (w' := wg)) hQ1.out hQ2.out).mono ?_
        rintro e w5 ⟨hbp, hb5⟩
        have e5 : Ext wg w5 := Ext.trans e4 hb5
        rcases hbp with ⟨bi, br, _, _, hbk, rfl⟩ | ⟨hbk, rfl⟩
        · have hv := hid (show ptB M S N s n d T = false by rw [hB.out, hK1.out, hbk]; simp; omega)
          replace hbk := hid hbk
          go_wp2_with fail
          go_ret2
          rw [hv.out, hGy.out]
          exact ⟨rfl, by first | exact Ext.trans ewg e5 | exact Ext.trans ewg (Ext.trans e5 inferInstance)⟩
        · have hv := hid (show ptB M S N s n d T = true by rw [hB.out, hK1.out, hbk]; rfl)
          replace hbk := hid hbk
          go_wp2_with fail
          go_ret2
          rw [hv.out, hGy.out]
          exact ⟨rfl, by first | exact Ext.trans ewg e5 | exact Ext.trans ewg (Ext.trans e5 inferInstance)⟩

set_option maxHeartbeats 1600000 in
set_option maxRecDepth 100000 in
theorem implIP_any {v vN vT : Value} {M S N : List (List Int)} {T : List Int} {s n d : Int} {w0 w : World} [Ext w0 w] (hp : IsProb w0 v M S) (hN : IsRows w0 vN N) (_hs : I64 s) (hT : IsInts w0 vT T) :
    Calls Try.prog 36 #[v, vN, .int .i64 s, .agg #[.int .i64 n, .int .i64 d], vT] w fun e w' => e = .returned (.tuple #[.bool (ptB M S N s n d T), .bool (ptG M S N s n d)]) ∧ Ext w w' := by
  have hp' := hp
  obtain ⟨v1, v2, rfl, hM, hS⟩ := hp
  have hM' := hM
  have hS' := hS
  obtain ⟨a1, c1, rfl, l1⟩ := hM.form
  obtain ⟨a2, c2, rfl, l2⟩ := hS.form
  have hN' := hN
  obtain ⟨aN, cN, rfl, lN⟩ := hN.form
  have hT' := hT
  obtain ⟨aT, cT, rfl, lT⟩ := hT.form
  obtain ⟨W, hW⟩ : ∃ W, W = (w.alloc (.cells #[.slice a1 M.length c1, .slice a2 S.length c2] 29)).alloc (.cells #[.int .i64 n, .int .i64 d] 39) := ⟨_, rfl⟩
  have eW : Ext w W := by rw [hW]; infer_instance
  have k0 : W.cell? ⟨w.heap.size, 0, none⟩ = some (.slice a1 M.length c1) := by rw [hW]; go_simp
  have k1 : W.cell? ⟨w.heap.size, 1, none⟩ = some (.slice a2 S.length c2) := by rw [hW]; go_simp
  have j0 : W.cell? ⟨w.heap.size + 1, 0, none⟩ = some (.int .i64 n) := by rw [hW]; go_simp
  have j1 : W.cell? ⟨w.heap.size + 1, 1, none⟩ = some (.int .i64 d) := by rw [hW]; go_simp
  have eW0 : Ext w0 W := Ext.trans ‹Ext w0 w› eW
  go_enter Try.func36, Try.ntmps36
  go_upto_region 1 with fail
  rw [← hW]
  clear hW
  go_wp2_with fail
  refine (pairsOf_any (w0 := w0) hp' hN').mono ?_
  rintro e w2 ⟨hpost, hb2⟩
  have e2 : Ext W w2 := hb2
  rcases hpost with ⟨hno, rfl⟩ | ⟨nn, m, hal, hoff, hend, bx, pd, ed, pm, em, rfl, hown⟩
  · have hr := hid (ptG_a (n := n) (d := d) hno)
    have hz := hid (ptB_no (T := T) hr.out)
    clear hno
    go_wp2_with fail
    go_ret2
    rw [hz.out, hr.out]
    exact ⟨rfl, by first | exact Ext.trans eW e2 | exact Ext.trans eW (Ext.trans e2 inferInstance)⟩
  · have hgk := hid (gr_ok (algOk_parts hal).1 (algOk_parts hal).2 hoff)
    have hgd : grOf M S N s.toNat nn = ⟨M, S, N, offStp M S s.toNat nn, offGrw M S s.toNat nn⟩ := rfl
    rw [← hgd] at hgk
    clear hgd
    have hsI := startB_state (algOk_parts hal).1
    have hsM : s.toNat < (grOf M S N s.toNat nn).M.length := by show s.toNat < M.length; omega
    have hpos := prEnd_pos hend
    have hprb := hid (prB_some hal hoff hend)
    have hgS : (grOf M S N s.toNat nn).S = S := rfl
    have hgo : grOf M S N s.toNat (offN M S s) = grOf M S N s.toNat nn := by rw [offN_some hoff]
    have hpl := hid (show (prLst (grOf M S N s.toNat nn) s.toNat m).length = m from (prEnd_some hgk.out hsM hend).1)
    have hm6 := (prEnd_some hgk.out hsM hend).2.1
    have hG1 := hid (show ptG M S N s n d = ratioB n d by rw [ptG, hprb.out, Bool.true_and])
    have hMn : prMn M S N s = m := by rw [prMn, hgo, hend]; rfl
    have hT1 := hid (show ptT M S N s T = tabB (prLst (grOf M S N s.toNat nn) s.toNat m).length T by rw [ptT, hMn, hpl.out])
    have hK1 := hid (show ptK M S N s n d T = brI (grOf M S N s.toNat nn) s.toNat m n d T by rw [ptK, hMn, hgo])
    clear hMn
    clear hsI
    obtain ⟨wg, hwg⟩ : ∃ wg, wg = w2 := ⟨_, rfl⟩
    have eg : Ext W wg := by rw [hwg]; exact e2
    have hpx : IsPx wg bx (grOf M S N s.toNat nn) s.toNat m (grOf M S N s.toNat nn).S.length := by rw [hwg]; exact isPx_of_own hgk.out hsM hend hown
    clear hown
    have g0 := eg.cell k0
    have g1 := eg.cell k1
    have i0 := eg.cell j0
    have i1 := eg.cell j1
    have e0g : Ext w0 wg := Ext.trans eW0 eg
    have ewg : Ext w wg := Ext.trans eW eg
    replace hoff := hid hoff
    replace hend := hid hend
    replace hal := hid hal
    replace hgo := hid hgo
    replace hgS := hid hgS
    go_upto_region 2 with fail
    rw [← hwg]
    clear hwg
    cases hq1 : ratioB n d with
    | false =>
      have hr := hid (ptG_b (M := M) (S := S) (N := N) (s := s) hq1)
      have hz := hid (ptB_no (T := T) hr.out)
      replace hq1 := hid hq1
      go_wp2_with fail
      refine (isRatio_any _).mono ?_; rw [hq1.out]; rintro e w3 ⟨rfl, hb3⟩
      have e3 : Ext wg w3 := hb3
      have p4 := e3.cell g0
      have p5 := e3.cell g1
      have e03 : Ext w0 w3 := Ext.trans e0g e3
      go_wp2_with fail
      go_ret2
      rw [hz.out, hr.out]
      exact ⟨rfl, by first | exact Ext.trans ewg e3⟩
    | true =>
      have hGy := hid (show ptG M S N s n d = true by rw [hG1.out]; exact hq1)
      have hQ1 := hid hq1
      replace hq1 := hid hq1
      obtain ⟨pd, pm, hl0, _⟩ := hpx.list
      generalize grOf M S N s.toNat nn = g at *
      cases hq2 : tabB (prLst g s.toNat m).length T with
      | false =>
        have hr := hid (ptB_tab (n := n) (d := d) (show ptT M S N s T = false by rw [hT1.out]; exact hq2))
        replace hq2 := hid hq2
        go_wp2_with fail
        refine (isRatio_any _).mono ?_; rw [hq1.out]; rintro e w3 ⟨rfl, hb3⟩
        have e3 : Ext wg w3 := hb3
        have p4 := e3.cell g0
        have p5 := e3.cell g1
        have e03 : Ext w0 w3 := Ext.trans e0g e3
        have h30 := e3.cell hl0
        go_wp2_with fail
        refine (areNumbers_any (w0 := w0) hT').mono ?_; rw [hq2.out]; rintro e w4 ⟨rfl, hb4⟩
        have e4 : Ext wg w4 := Ext.trans e3 hb4
        go_wp2_with fail
        go_ret2
        rw [hr.out, hGy.out]
        exact ⟨rfl, Ext.trans ewg e4⟩
      | true =>
        have hQ2 := hid (show tabB m T = true by rw [← hpl.out]; exact hq2)
        have hB := hid (ptB_end (n := n) (d := d) hGy.out (show ptT M S N s T = true by rw [hT1.out]; exact hq2))
        replace hq2 := hid hq2
        go_wp2_with fail
        refine (isRatio_any _).mono ?_; rw [hq1.out]; rintro e w3 ⟨rfl, hb3⟩
        have e3 : Ext wg w3 := hb3
        have p4 := e3.cell g0
        have p5 := e3.cell g1
        have e03 : Ext w0 w3 := Ext.trans e0g e3
        have h30 := e3.cell hl0
        have i30 := e3.cell i0
        have i31 := e3.cell i1
        go_wp2_with fail
        refine (areNumbers_any (w0 := w0) hT').mono ?_; rw [hq2.out]; rintro e w4 ⟨rfl, hb4⟩
        have e4 : Ext wg w4 := Ext.trans e3 hb4
        have i40 := hb4.cell i30
        have i41 := hb4.cell i31
        have e04 : Ext w0 w4 := Ext.trans e0g e4
        go_wp2_with fail
        refine (broken_any (w0 := wg) (T := T) hgk.out hsM hend.out (by rw [hgS.out]; rw [hgS.out] at hpx; exact hpx) (hT'.ext (w' := wg)) hQ1.out hQ2.out).mono ?_
        rintro e w5 ⟨rfl, hb5⟩
        have e5 : Ext wg w5 := Ext.trans e4 hb5
        have hv := hid (show ptB M S N s n d T = decide (brI g s.toNat m n d T < 0) by rw [hB.out, hK1.out])
        generalize brI g s.toNat m n d T = kk at *
        go_wp2_with fail
        go_ret2
        rw [hv.out, hGy.out]
        exact ⟨rfl, by first | exact Ext.trans ewg e5 | exact Ext.trans ewg (Ext.trans e5 inferInstance)⟩
end Go.Proofs.Ytobfehekjapnhaa
