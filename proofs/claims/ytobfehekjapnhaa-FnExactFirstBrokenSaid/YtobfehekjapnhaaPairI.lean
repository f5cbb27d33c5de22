/- The pairs and their edges, as the program finds them. -/
import Derived.Test.YtobfehekjapnhaaPairW
import Derived.Test.YtobfehekjapnhaaOffsI
namespace Go.Proofs.Ytobfehekjapnhaa
open Go.RowKit

set_option maxHeartbeats 800000 in
set_option maxRecDepth 100000 in
theorem indexPair_any {v : Value} {L : List (List Int)} {g : Gr} {n a b : Nat} {w0 w : World} [Ext w0 w] (hL : IsFlat w0 v 2 L) (hp : prOk g n L) :
    Calls Try.prog 91 #[v, .agg #[.int .i64 a, .int .i64 b]] w fun e w' => e = .returned (.int .i64 (ixL (fun o => decide (o = [(a : Int), (b : Int)])) L 0)) ∧ Ext w w' := by
  obtain ⟨pa, pc, rfl, hl⟩ := hL.form
  have eW : Ext w (w.alloc (.cells #[.int .i64 a, .int .i64 b] 59)) := inferInstance
  have x0 : (w.alloc (.cells #[.int .i64 a, .int .i64 b] 59)).cell? ⟨w.heap.size, 0, none⟩ = some (.int .i64 a) := by go_simp
  have x1 : (w.alloc (.cells #[.int .i64 a, .int .i64 b] 59)).cell? ⟨w.heap.size, 1, none⟩ = some (.int .i64 b) := by go_simp
  replace hp := hid hp
  go_enter Try.func91, Try.ntmps91
  go_upto_region 1 with fail
  generalize w.alloc (.cells #[.int .i64 a, .int .i64 b] 59) = W at *
  go_wp2
  go_loopw [8] (fun i wr => ∃ q : Nat, q ≤ L.length ∧ i = .int .i64 q ∧ Hid (∀ j, j < q → (fun o => decide (o = [(a : Int), (b : Int)])) (row L j) = false) ∧ Ext W wr) (fun i _ => L.length - (intOf i).toNat)
  case atStart => exact ⟨0, by omega, rfl, by intro x hx; omega, Ext.refl _⟩
  case round =>
    obtain ⟨q, hq, rfl, hno, hex⟩ := hrel
    have y0 := hex.cell x0
    have y1 := hex.cell x1
    have er : Ext w wr := Ext.trans eW hex
    have er0 : Ext w0 wr := Ext.trans ‹Ext w0 w› er
    by_cases hql : q < L.length
    · have hqat := (prOk_at hp.out hql).1
      obtain ⟨bl, ol, rfl, hcl⟩ := hL.at (w' := wr) hql
      have hcl0 : wr.cell? ⟨bl, ol + q * 2, none⟩ = some (.int .i64 (stOf L q)) := by
        have := hcl 0 (by omega)
        rw [Nat.add_zero] at this
        rw [this, prOk_cell hqat |>.1]
      have hcl1 : wr.cell? ⟨bl, ol + q * 2 + 1, none⟩ = some (.int .i64 (ofOf L q)) := by
        rw [hcl 1 (by omega), prOk_cell hqat |>.2]
      clear hcl
      generalize stOf L q = xa at *
      generalize ofOf L q = xb at *
      replace hqat := hid hqat
      by_cases hsame : xa = a ∧ xb = b
      · have heqp := equalPair_yes (a := a) (b := b) (c := xa) (d := xb) (by omega)
        have hixq := hid (ixL_some (p := fun o => decide (o = [(a : Int), (b : Int)])) (xs := L) (i := 0) hql (by rw [decide_eq_true_eq, hqat.out, hsame.1, hsame.2]) (fun j hj => hno.out j hj))
        rw [Nat.zero_add] at hixq
        replace hsame := hid hsame
        go_wp2_with (go_quiet (fail))
        go_ret
        exact ⟨ret_int hixq.out.symm, Ext.trans er inferInstance⟩
      · have heqp := equalPair_no (a := a) (b := b) (c := xa) (d := xb) (by omega)
        have hnoq := hid (show decide (row L q = [(a : Int), (b : Int)]) = false by
          rw [decide_eq_false_iff_not, hqat.out]
          intro e
          simp only [List.cons.injEq, and_true] at e
          exact hsame (by omega))
        replace hsame := hid hsame
        go_wp2_with (go_quiet (fail))
        go_roundw
        case rel =>
          refine ⟨q + 1, by omega, by go_num, ?_, Ext.trans hex inferInstance⟩
          intro j hj
          by_cases hjq : j = q
          · subst hjq; exact hnoq.out
          · exact hno.out j (by omega)
        case measure => simp [intOf]; omega
    · have hixq := hid (ixL_none (p := fun o => decide (o = [(a : Int), (b : Int)])) (xs := L) (i := 0) (fun j hj => hno.out j (by omega)))
      go_wp2
      go_ret
      exact ⟨ret_int hixq.out.symm, er⟩

/-- whether there are pairs: all is valid, and neither offsets nor pairs are too many -/
def prB (M S N : List (List Int)) (s : Int) : Bool := algOk M S N s [] && (match offEnd M S s.toNat with | none => false | some n => (prEnd (grOf M S N s.toNat n) s.toNat).isSome)
theorem prB_alg {M S N : List (List Int)} {s : Int} (h : algOk M S N s [] = false) : prB M S N s = false := by simp [prB, h]
theorem prB_off {M S N : List (List Int)} {s : Int} (h : offEnd M S s.toNat = none) : prB M S N s = false := by simp [prB, h]
theorem prB_pr {M S N : List (List Int)} {s : Int} {n : Nat} (h : offEnd M S s.toNat = some n) (h2 : prEnd (grOf M S N s.toNat n) s.toNat = none) : prB M S N s = false := by simp [prB, h, h2]
theorem prB_some {M S N : List (List Int)} {s : Int} {n m : Nat} (h0 : algOk M S N s [] = true) (h : offEnd M S s.toNat = some n) (h2 : prEnd (grOf M S N s.toNat n) s.toNat = some m) : prB M S N s = true := by simp [prB, h0, h, h2]

/-- the rows of the program's pairs: their box, and its two lists -/
def pxRows (bx kn : Nat) (pd ed : Option Addr) (pm em : Nat) (L E : List (List Int)) : List Row :=
  [⟨86, 3, .slice (some ⟨bx, 0, none⟩) 1 1, 1, [.slice pd L.length pm, .slice ed E.length em, .int .i64 kn]⟩, flatRowOf 59 2 (.slice pd L.length pm) L, flatRowOf 120 4 (.slice ed E.length em) E]
/-- all is well behind n rounds -/
def PxInv (g : Gr) (k kn s B bx : Nat) (wb : World) (n : Nat) (wi : World) : Prop :=
  n ≤ 600 ∧ (prLst g s n).length ≤ 600 ∧ prOk g k (prLst g s n) ∧ prGo g s (700 - n) n = prEnd g s ∧ n ≤ (prLst g s n).length ∧ Below B wb wi ∧
  ∃ pd ed pm em, Own wi B (pxRows bx kn pd ed pm em (prLst g s n) (prEd g s n))
def PxRow (g : Gr) (l E : List (List Int)) (n kn B bx : Nat) (wb : World) (r : Nat) (wi : World) : Prop :=
  Below B wb wi ∧ ∃ pd ed pm em, Own wi B (pxRows bx kn pd ed pm em (rowPr g l n r) (E ++ rowEd g l n r))
def pairsPost (M S N : List (List Int)) (s : Int) (w : World) (e : Ending) (w' : World) : Prop :=
  (prB M S N s = false ∧ e = .returned (.tuple #[.pointer none, .bool false])) ∨
  ∃ n m, algOk M S N s [] = true ∧ offEnd M S s.toNat = some n ∧ prEnd (grOf M S N s.toNat n) s.toNat = some m ∧
    ∃ bx pd ed pm em, e = .returned (.tuple #[.pointer (some ⟨bx, 0, none⟩), .bool true]) ∧ Own w' w.heap.size (pxRows bx S.length pd ed pm em (prLst (grOf M S N s.toNat n) s.toNat m) (prEd (grOf M S N s.toNat n) s.toNat m))

set_option maxHeartbeats 3200000 in
set_option maxRecDepth 100000 in
theorem pairsOf_any {v vN : Value} {M S N : List (List Int)} {s : Int} {w0 w : World} [Ext w0 w] (hp : IsProb w0 v M S) (hN : IsRows w0 vN N) :
    Calls Try.prog 57 #[v, vN, .int .i64 s] w fun e w' => pairsPost M S N s w e w' ∧ Ext w w' := by
  have hp' := hp
  obtain ⟨v1, v2, rfl, hM, hS⟩ := hp
  have hM' := hM
  have hS' := hS
  have hN' := hN
  obtain ⟨a1, c1, rfl, l1⟩ := hM.form
  obtain ⟨a2, c2, rfl, l2⟩ := hS.form
  obtain ⟨aN, cN, rfl, lN⟩ := hN.form
  have hnil : IsInts w0 (.slice none 0 0) [] := IsInts.nil w0
  cases hB0 : startB M S s [] with
  | false =>
    have hr := hid (prB_alg (algOk_start (N := N) hB0))
    replace hB0 := hid hB0
    go_enter Try.func57, Try.ntmps57
    go_wp2_with fail
    refine (isStarted_any (w0 := w0) hp' hnil).mono ?_; rw [hB0.out]; rintro e w1 ⟨rfl, hb1⟩
    go_wp2_with fail
    go_ret2
    exact ⟨.inl ⟨hr.out, rfl⟩, Ext.trans inferInstance hb1⟩
  | true =>
    have h0 := hid hB0
    replace hB0 := hid hB0
    cases hB1 : algB M S N with
    | false =>
      have hr := hid (prB_alg (algOk_alg (s := s) (X := []) hB1))
      replace hB1 := hid hB1
      go_enter Try.func57, Try.ntmps57
      go_wp2_with fail
      refine (isStarted_any (w0 := w0) hp' hnil).mono ?_; rw [hB0.out]; rintro e w1 ⟨rfl, hb1⟩
      have x0 : w1.cell? ⟨w.heap.size, 0, none⟩ = some (.slice a1 M.length c1) := hb1.cell (by go_simp)
      have x1 : w1.cell? ⟨w.heap.size, 1, none⟩ = some (.slice a2 S.length c2) := hb1.cell (by go_simp)
      have e1 : Ext w w1 := Ext.trans inferInstance hb1
      have e0 : Ext w0 w1 := Ext.trans ‹Ext w0 w› e1
      clear hb1
      go_wp2_with fail
      refine (isAlgorithm_any (w0 := w0) hM' hS' hN' (startB_prob h0.out)).mono ?_; rw [hB1.out]; rintro e w2 ⟨rfl, hb2⟩
      go_wp2_with fail
      go_ret2
      exact ⟨.inl ⟨hr.out, rfl⟩, Ext.trans e1 hb2⟩
    | true =>
      have ha := hid hB1
      replace hB1 := hid hB1
      have halg := hid (algOk_true h0.out ha.out)
      have hsI := startB_state h0.out
      obtain ⟨s, rfl⟩ := Int.eq_ofNat_of_zero_le hsI.1
      unfold pairsPost
      rw [Int.toNat_natCast]
      have hs : s < M.length := by omega
      have hpr := hid (startB_prob h0.out)
      have hn := hid (probB_len hpr.out)
      clear hsI
      go_enter Try.func57, Try.ntmps57
      go_wp2_with fail
      refine (isStarted_any (w0 := w0) hp' hnil).mono ?_; rw [hB0.out]; rintro e w1 ⟨rfl, hb1⟩
      have x0 : w1.cell? ⟨w.heap.size, 0, none⟩ = some (.slice a1 M.length c1) := hb1.cell (by go_simp)
      have x1 : w1.cell? ⟨w.heap.size, 1, none⟩ = some (.slice a2 S.length c2) := hb1.cell (by go_simp)
      have e1 : Ext w w1 := Ext.trans inferInstance hb1
      have e0 : Ext w0 w1 := Ext.trans ‹Ext w0 w› e1
      clear hb1
      go_wp2_with fail
      refine (isAlgorithm_any (w0 := w0) hM' hS' hN' (startB_prob h0.out)).mono ?_; rw [hB1.out]; rintro e w2 ⟨rfl, hb2⟩
      replace x0 := hb2.cell x0
      replace x1 := hb2.cell x1
      have e2 : Ext w w2 := Ext.trans e1 hb2
      have e02 : Ext w0 w2 := Ext.trans ‹Ext w0 w› e2
      clear hb2 e0 e1
      go_wp2_with fail
      refine (offsets_any (w0 := w0) hM' hS' hpr.out hs).mono ?_
      rintro e wT ⟨hpost, hb3⟩
      have tk0 := hb3.cell x0
      have tk1 := hb3.cell x1
      have eT : Ext w wT := Ext.trans e2 hb3
      have e0T : Ext w0 wT := Ext.trans ‹Ext w0 w› eT
      rcases hpost with ⟨hoff, rfl⟩ | ⟨n, hoff, ld, lm, xd, xm, gd, gm, lvs, xvs, gvs, rfl, hlv, hxv, hgv, hownO, hn4, hl4, hoffok, hXI, hGI⟩
      · have hr := hid (prB_off (N := N) (s := (s : Int)) (by rw [Int.toNat_natCast]; exact hoff))
        replace hoff := hid hoff
        go_wp2_with fail
        go_ret2
        exact ⟨.inl ⟨hr.out, rfl⟩, eT⟩
      · have hgk := hid (gr_ok h0.out ha.out (by rw [Int.toNat_natCast]; exact hoff))
        rw [Int.toNat_natCast] at hgk
        have hgdef : grOf M S N s n = ⟨M, S, N, offStp M S s n, offGrw M S s n⟩ := rfl
        rw [← hgdef] at hgk
        have f2 := small_read (l := offStp M S s n) (by rw [offStp_length]; omega) hXI
        have f3 := small_read (l := offGrw M S s n) (by rw [offGrw_length]; omega) hGI
        have hXr := (Own.right hownO).readsAll hxv f2.1 f2.2.1 f2.2.2
        have hGr := (Own.right (Own.right hownO)).readsAll hgv f3.1 f3.2.1 f3.2.2
        clear f2 f3 hXI hGI hoffok hownO hlv hxv hgv hl4
        obtain ⟨g, hg⟩ : ∃ g, g = grOf M S N s n := ⟨_, rfl⟩
        have hgM : g.M = M := by rw [hg]; rfl
        have hgS : g.S = S := by rw [hg]; rfl
        have hgN : g.N = N := by rw [hg]; rfl
        have hgT : g.T = offStp M S s n := by rw [hg]; rfl
        have hgG : g.G = offGrw M S s n := by rw [hg]; rfl
        rw [← hg] at hgk
        rw [← hgT] at hXr ⊢
        rw [← hgG] at hGr ⊢
        obtain ⟨wb, hwb⟩ : ∃ x, x = (wT.alloc (.cells #[.int .i64 s, .int .i64 0] 59)).alloc (.cells #[.slice (some ⟨wT.heap.size, 0, none⟩) 1 1, .slice none 0 0, .int .i64 S.length] 86) := ⟨_, rfl⟩
        have own0 : Own wb wT.heap.size (pxRows (wT.heap.size + 1) S.length (some ⟨wT.heap.size, 0, none⟩) none 1 0 (prLst g s 0) (prEd g s 0)) := by
          have q1 := (Own.nil wT wT.heap.size).lit 59 2 1 #[.int .i64 s, .int .i64 0] (Nat.le_refl _) (by unfold maxLen; omega) rfl
          have q2 := q1.lit 86 3 1 #[.slice (some ⟨wT.heap.size, 0, none⟩) 1 1, .slice none 0 0, .int .i64 S.length] (by simp) (by unfold maxLen; omega) rfl
          have q3 := q2.cons_nil 120 4
          rw [hwb]
          rw [show (wT.alloc (.cells #[.int .i64 s, .int .i64 0] 59)).heap.size = wT.heap.size + 1 by simp] at q3
          exact q3.perm (List.perm_append_comm (l₁ := [_, _]) (l₂ := [_]))
        have ewT : Ext wT wb := by rw [hwb]; infer_instance
        have tk1a : (wT.alloc (.cells #[.int .i64 s, .int .i64 0] 59)).cell? ⟨w.heap.size, 1, none⟩ = some (.slice a2 S.length c2) := Ext.cell (a := wT) inferInstance tk1
        replace hg := hid hg
        replace hgM := hid hgM
        replace hgS := hid hgS
        replace hgN := hid hgN
        replace hgT := hid hgT
        replace hgG := hid hgG
        go_upto_region 7 with fail
        rw [← hwb]
        clear tk1a
        clear hwb
        have ewb : Ext w wb := Ext.trans eT ewT
        have hInv0 : PxInv g n S.length s wT.heap.size (wT.heap.size + 1) wb 0 wb := ⟨by omega, by show [[(s : Int), 0]].length ≤ 600; simp, prOk_first (by rw [hgM.out]; exact hs) hgk.out.n1.1, rfl, Nat.zero_le _, Below.refl _ _, _, _, _, _, own0⟩
        have hBb : wT.heap.size ≤ wb.heap.size := ewT.size
        generalize hbx : wT.heap.size + 1 = bx at *
        replace hbx := hid hbx
        obtain ⟨B, hB⟩ : ∃ B, B = wT.heap.size := ⟨_, rfl⟩
        rw [← hB] at hInv0 hBb
        have hwB : w.heap.size < B := by rw [hB]; exact World.block_lt_of_cell? wT _ tk0
        replace hB := hid hB
        replace hInv0 := hid hInv0
        replace hoff := hid hoff
        clear hgdef own0 x0 x1
        go_wp2
        go_loopw [13] (fun i wi => ∃ m : Nat, i = .int .i64 m ∧ PxInv g n S.length s B bx wb m wi) (fun i _ => 602 - (intOf i).toNat)
        case atStart => exact ⟨0, rfl, hInv0.out⟩
        case round =>
          obtain ⟨m, rfl, hm6, hl6, hok, hgo, hml, hb0, pd, ed, pm, em, hown⟩ := hrel
          obtain ⟨wo, rfl⟩ : ∃ x : World, x = wr := ⟨_, rfl⟩
          have eTo : Ext wT wo := ⟨ewT.below.trans (hb0.mono (by have := hB.out; omega))⟩
          have eo : Ext w wo := Ext.trans eT eTo
          have hBo : B ≤ wo.heap.size := by have := hb0.size; omega
          have t0 : wo.cell? ⟨bx, 0, none⟩ = some (.slice pd (prLst g s m).length pm) := hown.cellIn (List.Mem.head _) (j := 0) (by omega)
          have u0 := eTo.cell tk0
          have u1 := eTo.cell tk1
          replace hok := hid hok
          replace hgo := hid hgo
          by_cases hlt : m < (prLst g s m).length
          · have hat := prOk_at hok.out hlt
            have hpf := prOk_flat hok.out
            have hLr := hown.tail.readsFlat (by omega) hpf.1 (hpf.2 hgk.out.n1.2 (by rw [hgM.out]; have := hn.out; omega))
            clear hpf
            obtain ⟨bp, op, rfl, hcp⟩ := hLr.at (w' := wo) hlt
            have hcp0 : wo.cell? ⟨bp, op + m * 2, none⟩ = some (.int .i64 (stOf (prLst g s m) m)) := by
              have := hcp 0 (by omega)
              rw [Nat.add_zero] at this
              rw [this, prOk_cell hat.1 |>.1]
            have hcp1 : wo.cell? ⟨bp, op + m * 2 + 1, none⟩ = some (.int .i64 (ofOf (prLst g s m) m)) := by
              rw [hcp 1 (by omega), prOk_cell hat.1 |>.2]
            clear hcp
            go_upto_region 11 with (go_quiet (fail))
            have eqq : Ext wo (wo.drewN nq) := inferInstance
            have hbq : Below B wb (wo.drewN nq) := hb0.trans (eqq.below.mono hBo)
            have hownq := hown.ext (w' := wo.drewN nq)
            have uq1 := eqq.cell u1
            generalize wo.drewN nq = wq at *
            clear hown t0 hcp0 hcp1 hLr u0 u1
            have hnext := hid (show prLst g s (m + 1) = rowPr g (prLst g s m) m S.length by rw [← hgS.out]; rfl)
            have hnextE := hid (show prEd g s (m + 1) = prEd g s m ++ rowEd g (prLst g s m) m S.length by rw [← hgS.out]; rfl)
            have hEdl := hid (prEd_length g s m)
            have hmoreG := hid (fun h4 : ¬ 600 < (prLst g s (m + 1)).length => prGo_more (g := g) (s := s) (f := 699 - m) hlt h4)
            have hbigG := hid (fun h4 : 600 < (prLst g s (m + 1)).length => prGo_big (g := g) (s := s) (f := 699 - m) hlt h4)
            generalize hln : prLst g s (m + 1) = lnext at *
            replace hln := hid hln
            generalize hle : prEd g s (m + 1) = enext at *
            replace hle := hid hle
            generalize hl0 : prLst g s m = l at *
            replace hl0 := hid hl0
            generalize prEd g s m = E at *
            have hst := hat.2.1
            have hof := hat.2.2
            clear hat
            generalize hstl : stOf l m = st at *
            generalize hofl : ofOf l m = of_ at *
            replace hstl := hid hstl
            replace hofl := hid hofl
            have hSl : g.S.length = S.length := by rw [hgS.out]
            replace hSl := hid hSl
            have hR0 := hid (show PxRow g l E m S.length B bx wb 0 wq from ⟨hbq, some ⟨bp, op, none⟩, ed, pm, em, by
              have e : E ++ rowEd g l m 0 = E := List.append_nil E
              rw [e]
              exact hownq⟩)
            go_wp2
            go_loopw [76] (fun i wi => ∃ r : Nat, r ≤ S.length ∧ i = .int .i64 r ∧ PxRow g l E m S.length B bx wb r wi) (fun i _ => S.length - (intOf i).toNat)
            case atStart => exact ⟨0, by omega, rfl, hR0.out⟩
            case round =>
              obtain ⟨r, hr, rfl, hb2, pd2, ed2, pm2, em2, hown2⟩ := hrel
              obtain ⟨wi, rfl⟩ : ∃ x : World, x = wr := ⟨_, rfl⟩
              have eTi : Ext wT wi := ⟨ewT.below.trans (hb2.mono (by have := hB.out; omega))⟩
              have ei : Ext w wi := Ext.trans eT eTi
              have ei0 : Ext w0 wi := Ext.trans ‹Ext w0 w› ei
              have hBi : B ≤ wi.heap.size := by have := hb2.size; omega
              have tg0 : wi.cell? ⟨bx, 0, none⟩ = some (.slice pd2 (rowPr g l m r).length pm2) := hown2.cellIn (.head _) (j := 0) (by omega)
              by_cases hltr : r < S.length
              · have hrS : r < g.S.length := by rw [hSl.out]; exact hltr
                have hrL := hid (rowPr_len g l m r)
                have hokr := hid (rowPr_ok hgk.out hok.out hlt (r := r) (by omega))
                obtain ⟨a, b, hnx, haM, hbn, hca, hcb⟩ := nxP_ok hgk.out hok.out hlt hrS
                rw [hstl.out] at hca
                rw [hofl.out] at hcb
                have hstM : st < M.length := by rw [← hgM.out]; exact hst
                have haM' : a < M.length := by rw [← hgM.out]; exact haM
                have hNl : st < N.length := by rw [algB_len ha.out]; exact hstM
                obtain ⟨b5, o5, d5, m5, rfl, hc5, hr5, _⟩ := hN.at (w' := w0) hNl
                have hNr := algB_row ha.out hstM
                rw [hNr] at hr5 hc5
                obtain ⟨b6, o6, rfl, hc6⟩ := hr5.at (w' := w0) (k := r) (by rw [hNr]; exact hltr)
                have hc6' : w0.cell? ⟨b6, o6 + r, none⟩ = some (.int .i64 a) := by
                  rw [hc6, ← hca, hgN.out]; rfl
                clear hc6 hNr
                have hT1 : of_ < g.T.length := by rw [hgk.out.tl]; exact hof
                obtain ⟨b7, o7, d7, m7, rfl, hc7, hr7, _⟩ := hXr.at (w' := wT) hT1
                have hTr := hgk.out.tr of_ hof
                rw [hSl.out] at hTr
                rw [hTr] at hr7 hc7
                obtain ⟨b8, o8, rfl, hc8⟩ := hr7.at (w' := wT) (k := r) (by rw [hTr]; exact hltr)
                have hc8' : wT.cell? ⟨b8, o8 + r, none⟩ = some (.int .i64 b) := by
                  rw [hc8, ← hcb]; rfl
                clear hc8 hTr
                have hG1 : of_ < g.G.length := by rw [hgk.out.gl]; exact hof
                obtain ⟨b13, o13, d13, m13, rfl, hc13, hr13, _⟩ := hGr.at (w' := wT) hG1
                have hGl := hgk.out.gr of_ hof
                rw [hSl.out] at hGl
                rw [hGl] at hr13 hc13
                obtain ⟨b14, o14, rfl, hc14⟩ := hr13.at (w' := wT) (k := r) (by rw [hGl]; exact hltr)
                have hc14' : wT.cell? ⟨b14, o14 + r, none⟩ = some (.int .i64 (cell g.G of_ r)) := hc14
                clear hc14 hGl
                have f5 := ei0.cell hc5
                have f6 := ei0.cell hc6'
                have f7 := eTi.cell hc7
                have f8 := eTi.cell hc8'
                have hcst := hid (show ((0 : Int) ≤ (r : Int) ∧ (r : Int) < S.length) ∧ ((0 : Int) ≤ (st : Int) ∧ (st : Int) < M.length) ∧ ((0 : Int) ≤ (a : Int) ∧ (a : Int) < M.length) by omega)
                have hspd : Hid (stepC M S r st a = cell M st a + cell S r a) := by simp [Hid, stepC]
                have hix := hid (show toAt g l m r = ixL (fun o => decide (o = nxP g l m r)) (rowPr g l m r) 0 from rfl)
                have hto := hid (show toOf g l m r = if toAt g l m r < 0 then ((rowPr g l m r).length : Int) else toAt g l m r from rfl)
                have hsL := hid (show rowPr g l m (r + 1) = if toAt g l m r < 0 then rowPr g l m r ++ [nxP g l m r] else rowPr g l m r from rfl)
                have hER1 := hid (show E ++ rowEd g l m (r + 1) = (E ++ rowEd g l m r) ++ [(m : Int) :: stpRow g l m r] by rw [rowEd_succ, List.append_assoc])
                have hEl := hid (show (E ++ rowEd g l m r).length ≤ 10000 by
                  rw [List.length_append, rowEd_length, hEdl.out, hSl.out]
                  have h1 := hn.out
                  have h2 : m * S.length ≤ 600 * 4 := Nat.mul_le_mul hm6 (by omega)
                  omega)
                have hstp := hid (show stpRow g l m r = [toOf g l m r, cell M st a + cell S r a, cell g.G of_ r] by
                  rw [stpRow, hstl.out, hofl.out, hca, hgM.out, hgS.out, Int.toNat_natCast])
                rw [hnx] at hix hsL
                replace hnx := hid hnx
                replace hca := hid hca
                replace hcb := hid hcb
                have hlr6 : (rowPr g l m r).length ≤ 604 := by have := hrL.out.2; have := hn.out; omega
                generalize hER : E ++ rowEd g l m r = ER at *
                replace hER := hid hER
                generalize hER1' : E ++ rowEd g l m (r + 1) = ER1 at *
                replace hER1' := hid hER1'
                generalize hlr1 : rowPr g l m (r + 1) = lr1 at *
                replace hlr1 := hid hlr1
                generalize hlr : rowPr g l m r = lr at *
                replace hlr := hid hlr
                generalize toAt g l m r = ix at *
                generalize toOf g l m r = tt at *
                generalize cell M st a + cell S r a = sp at *
                go_upto_region 16 with fail
                have epx : Ext wi (wi.alloc (.cells #[.int .i64 a, .int .i64 b] 59)) := inferInstance
                have x0 : (wi.alloc (.cells #[.int .i64 a, .int .i64 b] 59)).cell? ⟨wi.heap.size, 0, none⟩ = some (.int .i64 a) := by go_simp
                have x1 : (wi.alloc (.cells #[.int .i64 a, .int .i64 b] 59)).cell? ⟨wi.heap.size, 1, none⟩ = some (.int .i64 b) := by go_simp
                generalize wi.alloc (.cells #[.int .i64 a, .int .i64 b] 59) = wx at *
                have hpf := prOk_flat hokr.out
                have hlf := hown2.tail.readsFlat (by omega) hpf.1 (hpf.2 hgk.out.n1.2 (by rw [hgM.out]; have := hn.out; omega))
                clear hpf f5 f6 f7 f8
                have tg1 := epx.cell tg0
                have ed : Ext wx (wx).drew := inferInstance
                refine wp_region_held_drew (S := fun w' => Ext wx w' ∧ w'.cell? ⟨bx, 0, none⟩ = some (.slice pd2 lr.length pm2) ∧ w'.cell? ⟨wi.heap.size, 0, none⟩ = some (.int .i64 a) ∧ w'.cell? ⟨wi.heap.size, 1, none⟩ = some (.int .i64 b)) (by kernel_rfl) ⟨ed, ed.cell tg1, ed.cell x0, ed.cell x1⟩ (fun hHeld0 => ?_)
                refine wpAnyH_take (i := 0) (v := .pointer (some ⟨bx, 0, none⟩)) rfl (by kernel_rfl) (by kernel_rfl) (by kernel_rfl) (fun _ _ _ h => h) (Or.inl ⟨by rfl, by intro wx hx; go_simp⟩) (by assumption) ?_
                try simp only [List.getElem_toArray, List.getElem_cons_zero, Act.put, List.setIfInBounds_toArray, List.set_cons_zero, List.set_cons_succ]
                refine wpAnyH_take (i := 1) (v := .pointer (some ⟨bx, 0, none⟩)) rfl (by kernel_rfl) (by kernel_rfl) (by kernel_rfl) (fun _ _ _ h => h) (Or.inl ⟨by rfl, by intro wx hx; go_simp⟩) (by assumption) ?_
                try simp only [List.getElem_toArray, List.getElem_cons_succ, List.getElem_cons_zero, Act.put, List.setIfInBounds_toArray, List.set_cons_zero, List.set_cons_succ]
                refine wpAnyH_take (i := 2) (v := .pointer (some ⟨bx, 0, none⟩)) rfl (by kernel_rfl) (by kernel_rfl) (by kernel_rfl) (fun _ _ _ h => h) (Or.inl ⟨by rfl, by intro wx hx; go_simp⟩) (by assumption) ?_
                try simp only [List.getElem_toArray, List.getElem_cons_succ, List.getElem_cons_zero, Act.put, List.setIfInBounds_toArray, List.set_cons_zero, List.set_cons_succ]
                refine wpAnyH_take (i := 3) (v := .slice pd2 lr.length pm2) rfl (by kernel_rfl) (by kernel_rfl) (by kernel_rfl) (fun _ _ _ h => h) (Or.inl ⟨by rfl, by intro wx hx; obtain ⟨_, _, _, _⟩ := hx; go_simp⟩) (by assumption) ?_
                try simp only [List.getElem_toArray, List.getElem_cons_succ, List.getElem_cons_zero, Act.put, List.setIfInBounds_toArray, List.set_cons_zero, List.set_cons_succ]
                refine wpAnyH_take (i := 4) (v := .agg #[.int .i64 a, .int .i64 b]) rfl (by kernel_rfl) (by kernel_rfl) (by kernel_rfl) (fun _ _ _ h => h) (Or.inl ⟨by rfl, by intro wx hx; obtain ⟨_, _, _, _⟩ := hx; go_simp⟩) (by assumption) ?_
                try simp only [List.getElem_toArray, List.getElem_cons_succ, List.getElem_cons_zero, Act.put, List.setIfInBounds_toArray, List.set_cons_zero, List.set_cons_succ]
                refine wpAnyH_ready (rs := [5]) (by kernel_rfl) (by simp) ?_
                refine AllReadyH.cons rfl (fun K hK => ?_) AllReadyH.nil
                go_simp
                go_at_call 91
                refine (indexPair_any (w0 := wi) (a := a) (b := b) (w := wx.drew) hlf hokr.out).mono ?_
                rw [← hix.out]
                rintro e wz ⟨rfl, hbi⟩
                go_wp2_with fail
                have er1 : Ext wx wz := Ext.trans ed hbi
                refine hK.out _ _ ⟨er1, er1.cell tg1, er1.cell x0, er1.cell x1⟩ (fun hHeld1 => ?_)
                clear hK K hHeld0
                try simp only [List.getElem_toArray, List.getElem_cons_succ, List.getElem_cons_zero, Act.put, List.setIfInBounds_toArray, List.set_cons_zero, List.set_cons_succ]
                refine wpAnyH_take (i := 6) (v := .int .i64 ix) rfl (by kernel_rfl) (by kernel_rfl) (by kernel_rfl) (fun _ _ _ h => h) (Or.inl ⟨by rfl, by intro wx hx; go_simp⟩) (by assumption) ?_
                try simp only [List.getElem_toArray, List.getElem_cons_succ, List.getElem_cons_zero, Act.put, List.setIfInBounds_toArray, List.set_cons_zero, List.set_cons_succ]
                refine wpAnyH_done (by kernel_rfl) ?_ _
                have exz : Ext wi wz := Ext.trans epx er1
                have hbz : Below B wb wz := hb2.trans (exz.below.mono hBi)
                have hBz : B ≤ wz.heap.size := Nat.le_trans hBi exz.size
                have y0 := er1.cell x0
                have y1 := er1.cell x1
                have tgz := er1.cell tg1
                clear hHeld1 x0 x1 tg1 tg0 ed
                by_cases hneg : ix < 0
                · have hneg' : decide (ix < 0) = true := by simpa using hneg
                  have hL1 := hid (hsL.out.trans (if_pos hneg))
                  have hat := hid (show tt = (lr.length : Int) by rw [hto.out, if_pos hneg])
                  have hl1 : lr.length + 1 = lr1.length := by rw [hL1.out, List.length_append]; rfl
                  replace hneg := hid hneg
                  replace hl1 := hid hl1
                  go_upto_region 19 with fail
                  have hownz := Own.pull (A := [_]) (hown2.ext (w' := wz))
                  refine wp_region_held_drew (S := fun _ => True) (by kernel_rfl) trivial (fun hHeld0 => ?_)
                  refine wpAnyH_take (i := 0) (v := .pointer (some ⟨bx, 0, none⟩)) rfl (by kernel_rfl) (by kernel_rfl) (by kernel_rfl) (fun _ _ _ h => h) (Or.inl ⟨by rfl, by intro wx hx; go_simp⟩) (by assumption) ?_
                  try simp only [List.getElem_toArray, List.getElem_cons_zero, Act.put, List.setIfInBounds_toArray, List.set_cons_zero, List.set_cons_succ]
                  refine wpAnyH_take (i := 1) (v := .pointer (some ⟨bx, 0, none⟩)) rfl (by kernel_rfl) (by kernel_rfl) (by kernel_rfl) (fun _ _ _ h => h) (Or.inl ⟨by rfl, by intro wx hx; go_simp⟩) (by assumption) ?_
                  try simp only [List.getElem_toArray, List.getElem_cons_succ, List.getElem_cons_zero, Act.put, List.setIfInBounds_toArray, List.set_cons_zero, List.set_cons_succ]
                  refine wpAnyH_take (i := 2) (v := .pointer (some ⟨bx, 0, none⟩)) rfl (by kernel_rfl) (by kernel_rfl) (by kernel_rfl) (fun _ _ _ h => h) (Or.inl ⟨by rfl, by intro wx hx; go_simp⟩) (by assumption) ?_
                  try simp only [List.getElem_toArray, List.getElem_cons_succ, List.getElem_cons_zero, Act.put, List.setIfInBounds_toArray, List.set_cons_zero, List.set_cons_succ]
                  refine wpAnyH_take (i := 3) (v := .pointer (some ⟨bx, 0, none⟩)) rfl (by kernel_rfl) (by kernel_rfl) (by kernel_rfl) (fun _ _ _ h => h) (Or.inl ⟨by rfl, by intro wx hx; go_simp⟩) (by assumption) ?_
                  try simp only [List.getElem_toArray, List.getElem_cons_succ, List.getElem_cons_zero, Act.put, List.setIfInBounds_toArray, List.set_cons_zero, List.set_cons_succ]
                  have tgd : wz.drew.cell? ⟨bx, 0, none⟩ = some (.slice pd2 lr.length pm2) := tgz
                  have yd0 : wz.drew.cell? ⟨wi.heap.size, 0, none⟩ = some (.int .i64 a) := y0
                  have yd1 : wz.drew.cell? ⟨wi.heap.size, 1, none⟩ = some (.int .i64 b) := y1
                  have ezd : Ext wz wz.drew := inferInstance
                  have hownd := hownz.ext (w' := wz.drew)
                  have hbd : Below B wb wz.drew := hbz.trans (ezd.below.mono hBz)
                  have hBd : B ≤ wz.drew.heap.size := Nat.le_trans hBz ezd.size
                  have etd : Ext wT wz.drew := Ext.trans eTi (Ext.trans exz ezd)
                  clear hHeld0 hownz tgz y0 y1
                  generalize wz.drew = wy at *
                  have hHeld0 := True.intro
                  refine wpAnyH_ready (rs := [4, 5]) (by kernel_rfl) (by simp) ?_
                  refine AllReadyH.cons rfl (fun K hK => ?_) (AllReadyH.cons rfl (fun K hK => ?_) AllReadyH.nil)
                  · go_simp
                    refine hK.out _ _ trivial (fun _ => ?_)
                    clear hK K
                    try simp only [List.getElem_toArray, List.getElem_cons_succ, List.getElem_cons_zero, Act.put, List.setIfInBounds_toArray, List.set_cons_zero, List.set_cons_succ]
                    refine wpAnyH_ready (rs := [5]) (by kernel_rfl) (by simp) ?_
                    refine AllReadyH.cons rfl (fun K hK => ?_) AllReadyH.nil
                    go_simp
                    refine hK.out _ _ trivial (fun _ => ?_)
                    clear hK K
                    try simp only [List.getElem_toArray, List.getElem_cons_succ, List.getElem_cons_zero, Act.put, List.setIfInBounds_toArray, List.set_cons_zero, List.set_cons_succ]
                    refine wpAnyH_ready (rs := [6]) (by kernel_rfl) (by simp) ?_
                    refine AllReadyH.cons rfl (fun K hK => ?_) AllReadyH.nil
                    go_simp
                    refine hK.out _ _ trivial (fun _ => ?_)
                    clear hK K
                    try simp only [List.getElem_toArray, List.getElem_cons_succ, List.getElem_cons_zero, Act.put, List.setIfInBounds_toArray, List.set_cons_zero, List.set_cons_succ]
                    have OWa := hownd.ext (w' := (wy.alloc (.cells #[.int .i64 a, .int .i64 b] 59)))
                    have hBa : B ≤ ((wy.alloc (.cells #[.int .i64 a, .int .i64 b] 59))).heap.size := by simp; omega
                    refine wpAnyH_ready (rs := [7]) (by kernel_rfl) (by simp) ?_
                    refine AllReadyH.cons rfl (fun K hK => ?_) AllReadyH.nil
                    refine step_append1z rfl (.tmp 112) (.tmp 114) 48 rfl elemPair rfl OWa hBa (us := [.int .i64 a, .int .i64 b]) rfl rfl ?_ (by intro u hu; simp at hu; rcases hu with rfl | rfl <;> rfl) (by omega) (by omega) ?_
                    · intro jj u hj
                      match jj, hj with
                      | 0, hj => simp at hj; subst hj; go_simp
                      | 1, hj => simp at hj; subst hj; go_simp
                    intro v4 w4 ho4 hb4
                    obtain ⟨vd, vm, hv4⟩ := ho4.form
                    have hv4' : v4 = .slice vd lr1.length vm := by rw [← hl1.out]; exact hv4
                    subst hv4'
                    clear hv4
                    have tc : w4.cell? ⟨bx, 0, none⟩ = some (.slice pd2 lr.length pm2) := ho4.cellIn (.tail _ (.head _)) (j := 0) (by omega)
                    have tf := ho4.frozenIn (.tail _ (.head _)) 0
                    refine hK.out _ _ trivial (fun _ => ?_)
                    clear hK K
                    try simp only [List.getElem_toArray, List.getElem_cons_succ, List.getElem_cons_zero, Act.put, List.setIfInBounds_toArray, List.set_cons_zero, List.set_cons_succ]
                    have hbxB := ((ho4.1 _ (.tail _ (.head _))).lt bx rfl).1
                    have hoS := Own.setIn (A := [_]) ho4 0 (.slice vd lr1.length vm)
                    have hoP := flat_snoc (x := [(a : Int), (b : Int)]) hoS rfl rfl
                    have hoQ := Own.push (A := [_]) hoP
                    have OWS : Own (w4.setCell ⟨bx, 0, none⟩ (.slice vd lr1.length vm)) B (pxRows bx S.length vd ed2 vm em2 lr1 ER) := by
                      unfold pxRows
                      rw [hL1.out] at hoQ ⊢
                      exact hoQ
                    have hbS : Below B wb (w4.setCell ⟨bx, 0, none⟩ (.slice vd lr1.length vm)) := ((hbd.alloc hBd _).trans hb4).setCell hbxB _
                    have hBS : B ≤ (w4.setCell ⟨bx, 0, none⟩ (.slice vd lr1.length vm)).heap.size := by have := hb4.size; simp [World.setCell]; simp at this; omega
                    refine wpAnyH_take (i := 8) (v := .pointer (some ⟨bx, 0, none⟩)) rfl (by kernel_rfl) (by kernel_rfl) (by kernel_rfl) (fun _ _ _ h => h) (Or.inl ⟨by rfl, by intro wx hx; go_simp⟩) (by assumption) ?_
                    try simp only [List.getElem_toArray, List.getElem_cons_succ, List.getElem_cons_zero, Act.put, List.setIfInBounds_toArray, List.set_cons_zero, List.set_cons_succ]
                    refine wpAnyH_take (i := 9) (v := .pointer (some ⟨bx, 0, none⟩)) rfl (by kernel_rfl) (by kernel_rfl) (by kernel_rfl) (fun _ _ _ h => h) (Or.inl ⟨by rfl, by intro wx hx; go_simp⟩) (by assumption) ?_
                    try simp only [List.getElem_toArray, List.getElem_cons_succ, List.getElem_cons_zero, Act.put, List.setIfInBounds_toArray, List.set_cons_zero, List.set_cons_succ]
                    refine wpAnyH_ready (rs := [10]) (by kernel_rfl) (by simp) ?_
                    refine AllReadyH.cons rfl (fun K hK => ?_) AllReadyH.nil
                    go_simp
                    refine hK.out _ _ trivial (fun _ => ?_)
                    clear hK K
                    try simp only [List.getElem_toArray, List.getElem_cons_succ, List.getElem_cons_zero, Act.put, List.setIfInBounds_toArray, List.set_cons_zero, List.set_cons_succ]
                    refine wpAnyH_done (by kernel_rfl) ?_ _
                    generalize w4.setCell ⟨bx, 0, none⟩ (.slice vd lr1.length vm) = wS at *
                    have eTS : Ext wT wS := ⟨ewT.below.trans (hbS.mono (by have := hB.out; omega))⟩
                    have e0z : Ext w0 wS := Ext.trans e0T eTS
                    clear OWa hoS hoP hoQ ho4 tc tf hownd
                    have tgE : wS.cell? ⟨bx, 1, none⟩ = some (.slice ed2 ER.length em2) := OWS.cellIn (.head _) (j := 1) (by omega)
                    go_upto_region 20 with fail
                    have ed : Ext wT (wS).drew := Ext.trans eTS inferInstance
                    refine wp_region_held_drew (S := fun w' => Ext wT w' ∧ w'.cell? ⟨w.heap.size, 0, none⟩ = some (.slice a1 M.length c1) ∧ w'.cell? ⟨w.heap.size, 1, none⟩ = some (.slice a2 S.length c2) ∧ w'.cell? ⟨b13, o13 + of_, none⟩ = some (.slice (some ⟨b14, o14, none⟩) S.length m13) ∧ w'.cell? ⟨b14, o14 + r, none⟩ = some (.int .i64 (cell g.G of_ r))) (by kernel_rfl) ⟨ed, ed.cell tk0, ed.cell tk1, ed.cell hc13, ed.cell hc14'⟩ (fun hHeld0 => ?_)
                    refine wpAnyH_take (i := 0) (v := .pointer (some ⟨bx, 0, none⟩)) rfl (by kernel_rfl) (by kernel_rfl) (by kernel_rfl) (fun _ _ _ h => h) (Or.inl ⟨by rfl, by intro wx hx; go_simp⟩) (by assumption) ?_
                    try simp only [List.getElem_toArray, List.getElem_cons_zero, Act.put, List.setIfInBounds_toArray, List.set_cons_zero, List.set_cons_succ]
                    refine wpAnyH_take (i := 1) (v := .pointer (some ⟨bx, 0, none⟩)) rfl (by kernel_rfl) (by kernel_rfl) (by kernel_rfl) (fun _ _ _ h => h) (Or.inl ⟨by rfl, by intro wx hx; go_simp⟩) (by assumption) ?_
                    try simp only [List.getElem_toArray, List.getElem_cons_succ, List.getElem_cons_zero, Act.put, List.setIfInBounds_toArray, List.set_cons_zero, List.set_cons_succ]
                    refine wpAnyH_take (i := 2) (v := .pointer (some ⟨bx, 0, none⟩)) rfl (by kernel_rfl) (by kernel_rfl) (by kernel_rfl) (fun _ _ _ h => h) (Or.inl ⟨by rfl, by intro wx hx; go_simp⟩) (by assumption) ?_
                    try simp only [List.getElem_toArray, List.getElem_cons_succ, List.getElem_cons_zero, Act.put, List.setIfInBounds_toArray, List.set_cons_zero, List.set_cons_succ]
                    refine wpAnyH_take (i := 3) (v := .pointer (some ⟨bx, 1, none⟩)) rfl (by kernel_rfl) (by kernel_rfl) (by kernel_rfl) (fun _ _ _ h => h) (Or.inl ⟨by rfl, by intro wx hx; go_simp⟩) (by assumption) ?_
                    try simp only [List.getElem_toArray, List.getElem_cons_succ, List.getElem_cons_zero, Act.put, List.setIfInBounds_toArray, List.set_cons_zero, List.set_cons_succ]
                    refine wpAnyH_take (i := 5) (v := .int .i64 m) rfl (by kernel_rfl) (by kernel_rfl) (by kernel_rfl) (fun _ _ _ h => h) (Or.inl ⟨by rfl, by intro wx hx; go_simp⟩) (by assumption) ?_
                    try simp only [List.getElem_toArray, List.getElem_cons_succ, List.getElem_cons_zero, Act.put, List.setIfInBounds_toArray, List.set_cons_zero, List.set_cons_succ]
                    refine wpAnyH_take (i := 6) (v := .int .i64 lr.length) rfl (by kernel_rfl) (by kernel_rfl) (by kernel_rfl) (fun _ _ _ h => h) (Or.inl ⟨by rfl, by intro wx hx; go_simp⟩) (by assumption) ?_
                    try simp only [List.getElem_toArray, List.getElem_cons_succ, List.getElem_cons_zero, Act.put, List.setIfInBounds_toArray, List.set_cons_zero, List.set_cons_succ]
                    refine wpAnyH_take (i := 7) (v := .agg #[.slice a1 M.length c1, .slice a2 S.length c2]) rfl (by kernel_rfl) (by kernel_rfl) (by kernel_rfl) (fun _ _ _ h => h) (Or.inl ⟨by rfl, by intro wx hx; obtain ⟨_, _, _, _, _⟩ := hx; go_simp⟩) (by assumption) ?_
                    try simp only [List.getElem_toArray, List.getElem_cons_succ, List.getElem_cons_zero, Act.put, List.setIfInBounds_toArray, List.set_cons_zero, List.set_cons_succ]
                    refine wpAnyH_take (i := 8) (v := .int .i64 st) rfl (by kernel_rfl) (by kernel_rfl) (by kernel_rfl) (fun _ _ _ h => h) (Or.inl ⟨by rfl, by intro wx hx; go_simp⟩) (by assumption) ?_
                    try simp only [List.getElem_toArray, List.getElem_cons_succ, List.getElem_cons_zero, Act.put, List.setIfInBounds_toArray, List.set_cons_zero, List.set_cons_succ]
                    refine wpAnyH_take (i := 9) (v := .int .i64 a) rfl (by kernel_rfl) (by kernel_rfl) (by kernel_rfl) (fun _ _ _ h => h) (Or.inl ⟨by rfl, by intro wx hx; go_simp⟩) (by assumption) ?_
                    try simp only [List.getElem_toArray, List.getElem_cons_succ, List.getElem_cons_zero, Act.put, List.setIfInBounds_toArray, List.set_cons_zero, List.set_cons_succ]
                    refine wpAnyH_take (i := 10) (v := .int .i64 r) rfl (by kernel_rfl) (by kernel_rfl) (by kernel_rfl) (fun _ _ _ h => h) (Or.inl ⟨by rfl, by intro wx hx; go_simp⟩) (by assumption) ?_
                    try simp only [List.getElem_toArray, List.getElem_cons_succ, List.getElem_cons_zero, Act.put, List.setIfInBounds_toArray, List.set_cons_zero, List.set_cons_succ]
                    refine wpAnyH_take (i := 12) (v := .slice (some ⟨b13, o13, none⟩) g.G.length gm) rfl (by kernel_rfl) (by kernel_rfl) (by kernel_rfl) (fun _ _ _ h => h) (Or.inl ⟨by rfl, by intro wx hx; go_simp⟩) (by assumption) ?_
                    try simp only [List.getElem_toArray, List.getElem_cons_succ, List.getElem_cons_zero, Act.put, List.setIfInBounds_toArray, List.set_cons_zero, List.set_cons_succ]
                    refine wpAnyH_take (i := 13) (v := .int .i64 of_) rfl (by kernel_rfl) (by kernel_rfl) (by kernel_rfl) (fun _ _ _ h => h) (Or.inl ⟨by rfl, by intro wx hx; go_simp⟩) (by assumption) ?_
                    try simp only [List.getElem_toArray, List.getElem_cons_succ, List.getElem_cons_zero, Act.put, List.setIfInBounds_toArray, List.set_cons_zero, List.set_cons_succ]
                    refine wpAnyH_take (i := 14) (v := .pointer (some ⟨b13, o13 + of_, none⟩)) rfl (by kernel_rfl) (by kernel_rfl) (by kernel_rfl) (fun _ _ _ h => h) (Or.inl ⟨by rfl, by intro wx hx; go_simp⟩) (by assumption) ?_
                    try simp only [List.getElem_toArray, List.getElem_cons_succ, List.getElem_cons_zero, Act.put, List.setIfInBounds_toArray, List.set_cons_zero, List.set_cons_succ]
                    refine wpAnyH_take (i := 15) (v := .slice (some ⟨b14, o14, none⟩) S.length m13) rfl (by kernel_rfl) (by kernel_rfl) (by kernel_rfl) (fun _ _ _ h => h) (Or.inl ⟨by rfl, by intro wx hx; obtain ⟨_, _, _, _, _⟩ := hx; go_simp⟩) (by assumption) ?_
                    try simp only [List.getElem_toArray, List.getElem_cons_succ, List.getElem_cons_zero, Act.put, List.setIfInBounds_toArray, List.set_cons_zero, List.set_cons_succ]
                    refine wpAnyH_take (i := 16) (v := .int .i64 r) rfl (by kernel_rfl) (by kernel_rfl) (by kernel_rfl) (fun _ _ _ h => h) (Or.inl ⟨by rfl, by intro wx hx; go_simp⟩) (by assumption) ?_
                    try simp only [List.getElem_toArray, List.getElem_cons_succ, List.getElem_cons_zero, Act.put, List.setIfInBounds_toArray, List.set_cons_zero, List.set_cons_succ]
                    refine wpAnyH_take (i := 17) (v := .pointer (some ⟨b14, o14 + r, none⟩)) rfl (by kernel_rfl) (by kernel_rfl) (by kernel_rfl) (fun _ _ _ h => h) (Or.inl ⟨by rfl, by intro wx hx; go_simp⟩) (by assumption) ?_
                    try simp only [List.getElem_toArray, List.getElem_cons_succ, List.getElem_cons_zero, Act.put, List.setIfInBounds_toArray, List.set_cons_zero, List.set_cons_succ]
                    refine wpAnyH_take (i := 18) (v := .int .i64 (cell g.G of_ r)) rfl (by kernel_rfl) (by kernel_rfl) (by kernel_rfl) (fun _ _ _ h => h) (Or.inl ⟨by rfl, by intro wx hx; obtain ⟨_, _, _, _, _⟩ := hx; go_simp⟩) (by assumption) ?_
                    try simp only [List.getElem_toArray, List.getElem_cons_succ, List.getElem_cons_zero, Act.put, List.setIfInBounds_toArray, List.set_cons_zero, List.set_cons_succ]
                    refine wpAnyH_ready (rs := [4, 11]) (by kernel_rfl) (by simp) ?_
                    refine AllReadyH.cons rfl (fun K hK => ?_) (AllReadyH.cons rfl (fun K hK => ?_) AllReadyH.nil)
                    · go_simp
                      refine hK.out _ _ hHeld0 (fun _ => ?_)
                      clear hK K
                      try simp only [List.getElem_toArray, List.getElem_cons_succ, List.getElem_cons_zero, Act.put, List.setIfInBounds_toArray, List.set_cons_zero, List.set_cons_succ]
                      refine wpAnyH_ready (rs := [11]) (by kernel_rfl) (by simp) ?_
                      refine AllReadyH.cons rfl (fun K hK => ?_) AllReadyH.nil
                      go_simp
                      go_at_call 47
                      refine (cost_any (s := a) (w0 := wS) (hM'.ext (w' := wS)) (hS'.ext (w' := wS)) hpr.out hcst.out.1.1 hcst.out.1.2 hcst.out.2.1.1 hcst.out.2.1.2 hcst.out.2.2.1 hcst.out.2.2.2).mono ?_
                      rw [hspd.out]
                      rintro e wc ⟨rfl, hbc⟩
                      go_wp2_with fail
                      have ec : Ext wT wc := Ext.trans ed hbc
                      refine hK.out _ _ ⟨ec, ec.cell tk0, ec.cell tk1, ec.cell hc13, ec.cell hc14'⟩ (fun _ => ?_)
                      clear hK K
                      try simp only [List.getElem_toArray, List.getElem_cons_succ, List.getElem_cons_zero, Act.put, List.setIfInBounds_toArray, List.set_cons_zero, List.set_cons_succ]
                      refine wpAnyH_take (i := 19) (v := .agg #[.int .i64 m, .int .i64 lr.length, .int .i64 sp, .int .i64 (cell g.G of_ r)]) rfl (by kernel_rfl) (by kernel_rfl) (by kernel_rfl) (fun _ _ _ h => h) (Or.inl ⟨by rfl, by intro wx hx; go_simp⟩) (by assumption) ?_
                      try simp only [List.getElem_toArray, List.getElem_cons_succ, List.getElem_cons_zero, Act.put, List.setIfInBounds_toArray, List.set_cons_zero, List.set_cons_succ]
                      refine wpAnyH_ready (rs := [20]) (by kernel_rfl) (by simp) ?_
                      refine AllReadyH.cons rfl (fun K hK => ?_) AllReadyH.nil
                      go_simp
                      have ea : Ext wT (wc.alloc (.cells #[.int .i64 m, .int .i64 lr.length, .int .i64 sp, .int .i64 (cell g.G of_ r)] 120)) := Ext.trans ec inferInstance
                      refine hK.out _ _ ⟨ea, ea.cell tk0, ea.cell tk1, ea.cell hc13, ea.cell hc14'⟩ (fun _ => ?_)
                      clear hK K
                      try simp only [List.getElem_toArray, List.getElem_cons_succ, List.getElem_cons_zero, Act.put, List.setIfInBounds_toArray, List.set_cons_zero, List.set_cons_succ]
                      have epc : Ext wS wc := Ext.trans (Ext.drew wS wS) hbc
                      have hBc : B ≤ wc.heap.size := Nat.le_trans hBS epc.size
                      have epa : Ext wS (wc.alloc (.cells #[.int .i64 m, .int .i64 lr.length, .int .i64 sp, .int .i64 (cell g.G of_ r)] 120)) := Ext.trans epc inferInstance
                      have OWa := Own.pull (A := [_, _]) (OWS.ext (w' := (wc.alloc (.cells #[.int .i64 m, .int .i64 lr.length, .int .i64 sp, .int .i64 (cell g.G of_ r)] 120))))
                      have hba : Below B wb (wc.alloc (.cells #[.int .i64 m, .int .i64 lr.length, .int .i64 sp, .int .i64 (cell g.G of_ r)] 120)) := (hbS.trans (epc.below.mono hBS)).alloc hBc _
                      have hBa : B ≤ (wc.alloc (.cells #[.int .i64 m, .int .i64 lr.length, .int .i64 sp, .int .i64 (cell g.G of_ r)] 120)).heap.size := by simp; omega
                      refine wpAnyH_ready (rs := [21]) (by kernel_rfl) (by simp) ?_
                      refine AllReadyH.cons rfl (fun K hK => ?_) AllReadyH.nil
                      refine step_append1z rfl (.tmp 122) (.tmp 138) 84 rfl elemEdge rfl OWa hBa (us := [.int .i64 m, .int .i64 lr.length, .int .i64 sp, .int .i64 (cell g.G of_ r)]) rfl rfl ?_ (by intro u hu; simp at hu; rcases hu with rfl | rfl | rfl | rfl <;> rfl) (by have := hEl.out; omega) (by have := hEl.out; omega) ?_
                      · intro jj u hj
                        match jj, hj with
                        | 0, hj => simp at hj; subst hj; go_simp
                        | 1, hj => simp at hj; subst hj; go_simp
                        | 2, hj => simp at hj; subst hj; go_simp
                        | 3, hj => simp at hj; subst hj; go_simp
                      intro v4 w4 ho4 hb4
                      obtain ⟨ed4, em4, hv4⟩ := ho4.form
                      have hv4' : v4 = .slice ed4 (ER.length + 1) em4 := hv4
                      subst hv4'
                      clear hv4
                      have eb : Ext wT w4 := ⟨ea.below.trans (hb4.mono (by have := hB.out; omega))⟩
                      have tc4 : w4.cell? ⟨bx, 1, none⟩ = some (.slice ed2 ER.length em2) := ho4.cellIn (.tail _ (.head _)) (j := 1) (by omega)
                      have tf4 := ho4.frozenIn (.tail _ (.head _)) 1
                      refine hK.out _ _ ⟨eb, eb.cell tk0, eb.cell tk1, eb.cell hc13, eb.cell hc14'⟩ (fun _ => ?_)
                      clear hK K
                      try simp only [List.getElem_toArray, List.getElem_cons_succ, List.getElem_cons_zero, Act.put, List.setIfInBounds_toArray, List.set_cons_zero, List.set_cons_succ]
                      have hbxB := ((ho4.1 _ (.tail _ (.head _))).lt bx rfl).1
                      have hoS := Own.setIn (A := [_]) ho4 1 (.slice ed4 (ER.length + 1) em4)
                      have hoP := flat_snoc (x := (m : Int) :: [(lr.length : Int), sp, cell g.G of_ r]) hoS rfl rfl
                      have hoQ := Own.push (A := [_, _]) hoP
                      have hbF : Below B wb (w4.setCell ⟨bx, 1, none⟩ (.slice ed4 (ER.length + 1) em4)) := (hba.trans hb4).setCell hbxB _
                      have ef : Ext wT (w4.setCell ⟨bx, 1, none⟩ (.slice ed4 (ER.length + 1) em4)) := ⟨ewT.below.trans (hbF.mono (by have := hB.out; omega))⟩
                      have hoF : Own (w4.setCell ⟨bx, 1, none⟩ (.slice ed4 (ER.length + 1) em4)) B (pxRows bx S.length vd ed4 vm em4 lr1 (ER ++ [(m : Int) :: stpRow g l m r])) := by
                        rw [hstp.out, hat.out]
                        unfold pxRows
                        rw [List.length_append]
                        exact hoQ
                      refine wpAnyH_take (i := 22) (v := .pointer (some ⟨bx, 0, none⟩)) rfl (by kernel_rfl) (by kernel_rfl) (by kernel_rfl) (fun _ _ _ h => h) (Or.inl ⟨by rfl, by intro wx hx; go_simp⟩) (by assumption) ?_
                      try simp only [List.getElem_toArray, List.getElem_cons_succ, List.getElem_cons_zero, Act.put, List.setIfInBounds_toArray, List.set_cons_zero, List.set_cons_succ]
                      refine wpAnyH_take (i := 23) (v := .pointer (some ⟨bx, 1, none⟩)) rfl (by kernel_rfl) (by kernel_rfl) (by kernel_rfl) (fun _ _ _ h => h) (Or.inl ⟨by rfl, by intro wx hx; go_simp⟩) (by assumption) ?_
                      try simp only [List.getElem_toArray, List.getElem_cons_succ, List.getElem_cons_zero, Act.put, List.setIfInBounds_toArray, List.set_cons_zero, List.set_cons_succ]
                      refine wpAnyH_ready (rs := [24]) (by kernel_rfl) (by simp) ?_
                      refine AllReadyH.cons rfl (fun K hK => ?_) AllReadyH.nil
                      go_simp
                      refine hK.out _ _ ⟨ef, ef.cell tk0, ef.cell tk1, ef.cell hc13, ef.cell hc14'⟩ (fun _ => ?_)
                      clear hK K
                      try simp only [List.getElem_toArray, List.getElem_cons_succ, List.getElem_cons_zero, Act.put, List.setIfInBounds_toArray, List.set_cons_zero, List.set_cons_succ]
                      refine wpAnyH_done (by kernel_rfl) ?_ _
                      replace hoF := hid hoF
                      replace hbF := hid hbF
                      clear hoS hoP hoQ ho4 OWa OWS hba hbS
                      go_wp2_with fail
                      go_roundw
                      case rel =>
                        refine ⟨r + 1, by omega, by go_num, ?_⟩
                        unfold PxRow
                        rw [hlr1.out, hER1'.out, hER1.out]
                        exact ⟨hbF.out, _, _, _, _, hoF.out⟩
                      case measure => simp [intOf]; omega
                    · go_simp
                      go_at_call 47
                      refine (cost_any (s := a) (w0 := wS) (hM'.ext (w' := wS)) (hS'.ext (w' := wS)) hpr.out hcst.out.1.1 hcst.out.1.2 hcst.out.2.1.1 hcst.out.2.1.2 hcst.out.2.2.1 hcst.out.2.2.2).mono ?_
                      rw [hspd.out]
                      rintro e wc ⟨rfl, hbc⟩
                      go_wp2_with fail
                      have ec : Ext wT wc := Ext.trans ed hbc
                      refine hK.out _ _ ⟨ec, ec.cell tk0, ec.cell tk1, ec.cell hc13, ec.cell hc14'⟩ (fun _ => ?_)
                      clear hK K
                      try simp only [List.getElem_toArray, List.getElem_cons_succ, List.getElem_cons_zero, Act.put, List.setIfInBounds_toArray, List.set_cons_zero, List.set_cons_succ]
                      refine wpAnyH_take (i := 19) (v := .agg #[.int .i64 m, .int .i64 lr.length, .int .i64 sp, .int .i64 (cell g.G of_ r)]) rfl (by kernel_rfl) (by kernel_rfl) (by kernel_rfl) (fun _ _ _ h => h) (Or.inl ⟨by rfl, by intro wx hx; go_simp⟩) (by assumption) ?_
                      try simp only [List.getElem_toArray, List.getElem_cons_succ, List.getElem_cons_zero, Act.put, List.setIfInBounds_toArray, List.set_cons_zero, List.set_cons_succ]
                      have tgw : wc.cell? ⟨bx, 1, none⟩ = some (.slice ed2 ER.length em2) := (Ext.trans (Ext.drew wS wS) hbc).cell tgE
                      refine wpAnyH_ready (rs := [4, 20]) (by kernel_rfl) (by simp) ?_
                      refine AllReadyH.cons rfl (fun K hK => ?_) (AllReadyH.cons rfl (fun K hK => ?_) AllReadyH.nil)
                      · go_simp
                        refine hK.out _ _ ⟨ec, ec.cell tk0, ec.cell tk1, ec.cell hc13, ec.cell hc14'⟩ (fun _ => ?_)
                        clear hK K
                        try simp only [List.getElem_toArray, List.getElem_cons_succ, List.getElem_cons_zero, Act.put, List.setIfInBounds_toArray, List.set_cons_zero, List.set_cons_succ]
                        refine wpAnyH_ready (rs := [20]) (by kernel_rfl) (by simp) ?_
                        refine AllReadyH.cons rfl (fun K hK => ?_) AllReadyH.nil
                        go_simp
                        have ea : Ext wT (wc.alloc (.cells #[.int .i64 m, .int .i64 lr.length, .int .i64 sp, .int .i64 (cell g.G of_ r)] 120)) := Ext.trans ec inferInstance
                        refine hK.out _ _ ⟨ea, ea.cell tk0, ea.cell tk1, ea.cell hc13, ea.cell hc14'⟩ (fun _ => ?_)
                        clear hK K
                        try simp only [List.getElem_toArray, List.getElem_cons_succ, List.getElem_cons_zero, Act.put, List.setIfInBounds_toArray, List.set_cons_zero, List.set_cons_succ]
                        have epc : Ext wS wc := Ext.trans (Ext.drew wS wS) hbc
                        have hBc : B ≤ wc.heap.size := Nat.le_trans hBS epc.size
                        have epa : Ext wS (wc.alloc (.cells #[.int .i64 m, .int .i64 lr.length, .int .i64 sp, .int .i64 (cell g.G of_ r)] 120)) := Ext.trans epc inferInstance
                        have OWa := Own.pull (A := [_, _]) (OWS.ext (w' := (wc.alloc (.cells #[.int .i64 m, .int .i64 lr.length, .int .i64 sp, .int .i64 (cell g.G of_ r)] 120))))
                        have hba : Below B wb (wc.alloc (.cells #[.int .i64 m, .int .i64 lr.length, .int .i64 sp, .int .i64 (cell g.G of_ r)] 120)) := (hbS.trans (epc.below.mono hBS)).alloc hBc _
                        have hBa : B ≤ (wc.alloc (.cells #[.int .i64 m, .int .i64 lr.length, .int .i64 sp, .int .i64 (cell g.G of_ r)] 120)).heap.size := by simp; omega
                        refine wpAnyH_ready (rs := [21]) (by kernel_rfl) (by simp) ?_
                        refine AllReadyH.cons rfl (fun K hK => ?_) AllReadyH.nil
                        refine step_append1z rfl (.tmp 122) (.tmp 138) 84 rfl elemEdge rfl OWa hBa (us := [.int .i64 m, .int .i64 lr.length, .int .i64 sp, .int .i64 (cell g.G of_ r)]) rfl rfl ?_ (by intro u hu; simp at hu; rcases hu with rfl | rfl | rfl | rfl <;> rfl) (by have := hEl.out; omega) (by have := hEl.out; omega) ?_
                        · intro jj u hj
                          match jj, hj with
                          | 0, hj => simp at hj; subst hj; go_simp
                          | 1, hj => simp at hj; subst hj; go_simp
                          | 2, hj => simp at hj; subst hj; go_simp
                          | 3, hj => simp at hj; subst hj; go_simp
                        intro v4 w4 ho4 hb4
                        obtain ⟨ed4, em4, hv4⟩ := ho4.form
                        have hv4' : v4 = .slice ed4 (ER.length + 1) em4 := hv4
                        subst hv4'
                        clear hv4
                        have eb : Ext wT w4 := ⟨ea.below.trans (hb4.mono (by have := hB.out; omega))⟩
                        have tc4 : w4.cell? ⟨bx, 1, none⟩ = some (.slice ed2 ER.length em2) := ho4.cellIn (.tail _ (.head _)) (j := 1) (by omega)
                        have tf4 := ho4.frozenIn (.tail _ (.head _)) 1
                        refine hK.out _ _ ⟨eb, eb.cell tk0, eb.cell tk1, eb.cell hc13, eb.cell hc14'⟩ (fun _ => ?_)
                        clear hK K
                        try simp only [List.getElem_toArray, List.getElem_cons_succ, List.getElem_cons_zero, Act.put, List.setIfInBounds_toArray, List.set_cons_zero, List.set_cons_succ]
                        have hbxB := ((ho4.1 _ (.tail _ (.head _))).lt bx rfl).1
                        have hoS := Own.setIn (A := [_]) ho4 1 (.slice ed4 (ER.length + 1) em4)
                        have hoP := flat_snoc (x := (m : Int) :: [(lr.length : Int), sp, cell g.G of_ r]) hoS rfl rfl
                        have hoQ := Own.push (A := [_, _]) hoP
                        have hbF : Below B wb (w4.setCell ⟨bx, 1, none⟩ (.slice ed4 (ER.length + 1) em4)) := (hba.trans hb4).setCell hbxB _
                        have ef : Ext wT (w4.setCell ⟨bx, 1, none⟩ (.slice ed4 (ER.length + 1) em4)) := ⟨ewT.below.trans (hbF.mono (by have := hB.out; omega))⟩
                        have hoF : Own (w4.setCell ⟨bx, 1, none⟩ (.slice ed4 (ER.length + 1) em4)) B (pxRows bx S.length vd ed4 vm em4 lr1 (ER ++ [(m : Int) :: stpRow g l m r])) := by
                          rw [hstp.out, hat.out]
                          unfold pxRows
                          rw [List.length_append]
                          exact hoQ
                        refine wpAnyH_take (i := 22) (v := .pointer (some ⟨bx, 0, none⟩)) rfl (by kernel_rfl) (by kernel_rfl) (by kernel_rfl) (fun _ _ _ h => h) (Or.inl ⟨by rfl, by intro wx hx; go_simp⟩) (by assumption) ?_
                        try simp only [List.getElem_toArray, List.getElem_cons_succ, List.getElem_cons_zero, Act.put, List.setIfInBounds_toArray, List.set_cons_zero, List.set_cons_succ]
                        refine wpAnyH_take (i := 23) (v := .pointer (some ⟨bx, 1, none⟩)) rfl (by kernel_rfl) (by kernel_rfl) (by kernel_rfl) (fun _ _ _ h => h) (Or.inl ⟨by rfl, by intro wx hx; go_simp⟩) (by assumption) ?_
                        try simp only [List.getElem_toArray, List.getElem_cons_succ, List.getElem_cons_zero, Act.put, List.setIfInBounds_toArray, List.set_cons_zero, List.set_cons_succ]
                        refine wpAnyH_ready (rs := [24]) (by kernel_rfl) (by simp) ?_
                        refine AllReadyH.cons rfl (fun K hK => ?_) AllReadyH.nil
                        go_simp
                        refine hK.out _ _ ⟨ef, ef.cell tk0, ef.cell tk1, ef.cell hc13, ef.cell hc14'⟩ (fun _ => ?_)
                        clear hK K
                        try simp only [List.getElem_toArray, List.getElem_cons_succ, List.getElem_cons_zero, Act.put, List.setIfInBounds_toArray, List.set_cons_zero, List.set_cons_succ]
                        refine wpAnyH_done (by kernel_rfl) ?_ _
                        replace hoF := hid hoF
                        replace hbF := hid hbF
                        clear hoS hoP hoQ ho4 OWa OWS hba hbS
                        go_wp2_with fail
                        go_roundw
                        case rel =>
                          refine ⟨r + 1, by omega, by go_num, ?_⟩
                          unfold PxRow
                          rw [hlr1.out, hER1'.out, hER1.out]
                          exact ⟨hbF.out, _, _, _, _, hoF.out⟩
                        case measure => simp [intOf]; omega
                      · go_simp
                        have ea : Ext wT (wc.alloc (.cells #[.int .i64 m, .int .i64 lr.length, .int .i64 sp, .int .i64 (cell g.G of_ r)] 120)) := Ext.trans ec inferInstance
                        refine hK.out _ _ ⟨ea, ea.cell tk0, ea.cell tk1, ea.cell hc13, ea.cell hc14'⟩ (fun _ => ?_)
                        clear hK K
                        try simp only [List.getElem_toArray, List.getElem_cons_succ, List.getElem_cons_zero, Act.put, List.setIfInBounds_toArray, List.set_cons_zero, List.set_cons_succ]
                        have tgw2 : (wc.alloc (.cells #[.int .i64 m, .int .i64 lr.length, .int .i64 sp, .int .i64 (cell g.G of_ r)] 120)).cell? ⟨bx, 1, none⟩ = some (.slice ed2 ER.length em2) := (inferInstance : Ext wc _).cell tgw
                        refine wpAnyH_ready (rs := [4]) (by kernel_rfl) (by simp) ?_
                        refine AllReadyH.cons rfl (fun K hK => ?_) AllReadyH.nil
                        go_simp
                        refine hK.out _ _ ⟨ea, ea.cell tk0, ea.cell tk1, ea.cell hc13, ea.cell hc14'⟩ (fun _ => ?_)
                        clear hK K
                        try simp only [List.getElem_toArray, List.getElem_cons_succ, List.getElem_cons_zero, Act.put, List.setIfInBounds_toArray, List.set_cons_zero, List.set_cons_succ]
                        have epc : Ext wS wc := Ext.trans (Ext.drew wS wS) hbc
                        have hBc : B ≤ wc.heap.size := Nat.le_trans hBS epc.size
                        have epa : Ext wS (wc.alloc (.cells #[.int .i64 m, .int .i64 lr.length, .int .i64 sp, .int .i64 (cell g.G of_ r)] 120)) := Ext.trans epc inferInstance
                        have OWa := Own.pull (A := [_, _]) (OWS.ext (w' := (wc.alloc (.cells #[.int .i64 m, .int .i64 lr.length, .int .i64 sp, .int .i64 (cell g.G of_ r)] 120))))
                        have hba : Below B wb (wc.alloc (.cells #[.int .i64 m, .int .i64 lr.length, .int .i64 sp, .int .i64 (cell g.G of_ r)] 120)) := (hbS.trans (epc.below.mono hBS)).alloc hBc _
                        have hBa : B ≤ (wc.alloc (.cells #[.int .i64 m, .int .i64 lr.length, .int .i64 sp, .int .i64 (cell g.G of_ r)] 120)).heap.size := by simp; omega
                        refine wpAnyH_ready (rs := [21]) (by kernel_rfl) (by simp) ?_
                        refine AllReadyH.cons rfl (fun K hK => ?_) AllReadyH.nil
                        refine step_append1z rfl (.tmp 122) (.tmp 138) 84 rfl elemEdge rfl OWa hBa (us := [.int .i64 m, .int .i64 lr.length, .int .i64 sp, .int .i64 (cell g.G of_ r)]) rfl rfl ?_ (by intro u hu; simp at hu; rcases hu with rfl | rfl | rfl | rfl <;> rfl) (by have := hEl.out; omega) (by have := hEl.out; omega) ?_
                        · intro jj u hj
                          match jj, hj with
                          | 0, hj => simp at hj; subst hj; go_simp
                          | 1, hj => simp at hj; subst hj; go_simp
                          | 2, hj => simp at hj; subst hj; go_simp
                          | 3, hj => simp at hj; subst hj; go_simp
                        intro v4 w4 ho4 hb4
                        obtain ⟨ed4, em4, hv4⟩ := ho4.form
                        have hv4' : v4 = .slice ed4 (ER.length + 1) em4 := hv4
                        subst hv4'
                        clear hv4
                        have eb : Ext wT w4 := ⟨ea.below.trans (hb4.mono (by have := hB.out; omega))⟩
                        have tc4 : w4.cell? ⟨bx, 1, none⟩ = some (.slice ed2 ER.length em2) := ho4.cellIn (.tail _ (.head _)) (j := 1) (by omega)
                        have tf4 := ho4.frozenIn (.tail _ (.head _)) 1
                        refine hK.out _ _ ⟨eb, eb.cell tk0, eb.cell tk1, eb.cell hc13, eb.cell hc14'⟩ (fun _ => ?_)
                        clear hK K
                        try simp only [List.getElem_toArray, List.getElem_cons_succ, List.getElem_cons_zero, Act.put, List.setIfInBounds_toArray, List.set_cons_zero, List.set_cons_succ]
                        have hbxB := ((ho4.1 _ (.tail _ (.head _))).lt bx rfl).1
                        have hoS := Own.setIn (A := [_]) ho4 1 (.slice ed4 (ER.length + 1) em4)
                        have hoP := flat_snoc (x := (m : Int) :: [(lr.length : Int), sp, cell g.G of_ r]) hoS rfl rfl
                        have hoQ := Own.push (A := [_, _]) hoP
                        have hbF : Below B wb (w4.setCell ⟨bx, 1, none⟩ (.slice ed4 (ER.length + 1) em4)) := (hba.trans hb4).setCell hbxB _
                        have ef : Ext wT (w4.setCell ⟨bx, 1, none⟩ (.slice ed4 (ER.length + 1) em4)) := ⟨ewT.below.trans (hbF.mono (by have := hB.out; omega))⟩
                        have hoF : Own (w4.setCell ⟨bx, 1, none⟩ (.slice ed4 (ER.length + 1) em4)) B (pxRows bx S.length vd ed4 vm em4 lr1 (ER ++ [(m : Int) :: stpRow g l m r])) := by
                          rw [hstp.out, hat.out]
                          unfold pxRows
                          rw [List.length_append]
                          exact hoQ
                        refine wpAnyH_take (i := 22) (v := .pointer (some ⟨bx, 0, none⟩)) rfl (by kernel_rfl) (by kernel_rfl) (by kernel_rfl) (fun _ _ _ h => h) (Or.inl ⟨by rfl, by intro wx hx; go_simp⟩) (by assumption) ?_
                        try simp only [List.getElem_toArray, List.getElem_cons_succ, List.getElem_cons_zero, Act.put, List.setIfInBounds_toArray, List.set_cons_zero, List.set_cons_succ]
                        refine wpAnyH_take (i := 23) (v := .pointer (some ⟨bx, 1, none⟩)) rfl (by kernel_rfl) (by kernel_rfl) (by kernel_rfl) (fun _ _ _ h => h) (Or.inl ⟨by rfl, by intro wx hx; go_simp⟩) (by assumption) ?_
                        try simp only [List.getElem_toArray, List.getElem_cons_succ, List.getElem_cons_zero, Act.put, List.setIfInBounds_toArray, List.set_cons_zero, List.set_cons_succ]
                        refine wpAnyH_ready (rs := [24]) (by kernel_rfl) (by simp) ?_
                        refine AllReadyH.cons rfl (fun K hK => ?_) AllReadyH.nil
                        go_simp
                        refine hK.out _ _ ⟨ef, ef.cell tk0, ef.cell tk1, ef.cell hc13, ef.cell hc14'⟩ (fun _ => ?_)
                        clear hK K
                        try simp only [List.getElem_toArray, List.getElem_cons_succ, List.getElem_cons_zero, Act.put, List.setIfInBounds_toArray, List.set_cons_zero, List.set_cons_succ]
                        refine wpAnyH_done (by kernel_rfl) ?_ _
                        replace hoF := hid hoF
                        replace hbF := hid hbF
                        clear hoS hoP hoQ ho4 OWa OWS hba hbS
                        go_wp2_with fail
                        go_roundw
                        case rel =>
                          refine ⟨r + 1, by omega, by go_num, ?_⟩
                          unfold PxRow
                          rw [hlr1.out, hER1'.out, hER1.out]
                          exact ⟨hbF.out, _, _, _, _, hoF.out⟩
                        case measure => simp [intOf]; omega
                  · go_simp
                    refine hK.out _ _ trivial (fun _ => ?_)
                    clear hK K
                    try simp only [List.getElem_toArray, List.getElem_cons_succ, List.getElem_cons_zero, Act.put, List.setIfInBounds_toArray, List.set_cons_zero, List.set_cons_succ]
                    refine wpAnyH_ready (rs := [4, 6]) (by kernel_rfl) (by simp) ?_
                    refine AllReadyH.cons rfl (fun K hK => ?_) (AllReadyH.cons rfl (fun K hK => ?_) AllReadyH.nil)
                    · go_simp
                      refine hK.out _ _ trivial (fun _ => ?_)
                      clear hK K
                      try simp only [List.getElem_toArray, List.getElem_cons_succ, List.getElem_cons_zero, Act.put, List.setIfInBounds_toArray, List.set_cons_zero, List.set_cons_succ]
                      refine wpAnyH_ready (rs := [6]) (by kernel_rfl) (by simp) ?_
                      refine AllReadyH.cons rfl (fun K hK => ?_) AllReadyH.nil
                      go_simp
                      refine hK.out _ _ trivial (fun _ => ?_)
                      clear hK K
                      try simp only [List.getElem_toArray, List.getElem_cons_succ, List.getElem_cons_zero, Act.put, List.setIfInBounds_toArray, List.set_cons_zero, List.set_cons_succ]
                      have OWa := hownd.ext (w' := (wy.alloc (.cells #[.int .i64 a, .int .i64 b] 59)))
                      have hBa : B ≤ ((wy.alloc (.cells #[.int .i64 a, .int .i64 b] 59))).heap.size := by simp; omega
                      refine wpAnyH_ready (rs := [7]) (by kernel_rfl) (by simp) ?_
                      refine AllReadyH.cons rfl (fun K hK => ?_) AllReadyH.nil
                      refine step_append1z rfl (.tmp 112) (.tmp 114) 48 rfl elemPair rfl OWa hBa (us := [.int .i64 a, .int .i64 b]) rfl rfl ?_ (by intro u hu; simp at hu; rcases hu with rfl | rfl <;> rfl) (by omega) (by omega) ?_
                      · intro jj u hj
                        match jj, hj with
                        | 0, hj => simp at hj; subst hj; go_simp
                        | 1, hj => simp at hj; subst hj; go_simp
                      intro v4 w4 ho4 hb4
                      obtain ⟨vd, vm, hv4⟩ := ho4.form
                      have hv4' : v4 = .slice vd lr1.length vm := by rw [← hl1.out]; exact hv4
                      subst hv4'
                      clear hv4
                      have tc : w4.cell? ⟨bx, 0, none⟩ = some (.slice pd2 lr.length pm2) := ho4.cellIn (.tail _ (.head _)) (j := 0) (by omega)
                      have tf := ho4.frozenIn (.tail _ (.head _)) 0
                      refine hK.out _ _ trivial (fun _ => ?_)
                      clear hK K
                      try simp only [List.getElem_toArray, List.getElem_cons_succ, List.getElem_cons_zero, Act.put, List.setIfInBounds_toArray, List.set_cons_zero, List.set_cons_succ]
                      have hbxB := ((ho4.1 _ (.tail _ (.head _))).lt bx rfl).1
                      have hoS := Own.setIn (A := [_]) ho4 0 (.slice vd lr1.length vm)
                      have hoP := flat_snoc (x := [(a : Int), (b : Int)]) hoS rfl rfl
                      have hoQ := Own.push (A := [_]) hoP
                      have OWS : Own (w4.setCell ⟨bx, 0, none⟩ (.slice vd lr1.length vm)) B (pxRows bx S.length vd ed2 vm em2 lr1 ER) := by
                        unfold pxRows
                        rw [hL1.out] at hoQ ⊢
                        exact hoQ
                      have hbS : Below B wb (w4.setCell ⟨bx, 0, none⟩ (.slice vd lr1.length vm)) := ((hbd.alloc hBd _).trans hb4).setCell hbxB _
                      have hBS : B ≤ (w4.setCell ⟨bx, 0, none⟩ (.slice vd lr1.length vm)).heap.size := by have := hb4.size; simp [World.setCell]; simp at this; omega
                      refine wpAnyH_take (i := 8) (v := .pointer (some ⟨bx, 0, none⟩)) rfl (by kernel_rfl) (by kernel_rfl) (by kernel_rfl) (fun _ _ _ h => h) (Or.inl ⟨by rfl, by intro wx hx; go_simp⟩) (by assumption) ?_
                      try simp only [List.getElem_toArray, List.getElem_cons_succ, List.getElem_cons_zero, Act.put, List.setIfInBounds_toArray, List.set_cons_zero, List.set_cons_succ]
                      refine wpAnyH_take (i := 9) (v := .pointer (some ⟨bx, 0, none⟩)) rfl (by kernel_rfl) (by kernel_rfl) (by kernel_rfl) (fun _ _ _ h => h) (Or.inl ⟨by rfl, by intro wx hx; go_simp⟩) (by assumption) ?_
                      try simp only [List.getElem_toArray, List.getElem_cons_succ, List.getElem_cons_zero, Act.put, List.setIfInBounds_toArray, List.set_cons_zero, List.set_cons_succ]
                      refine wpAnyH_ready (rs := [10]) (by kernel_rfl) (by simp) ?_
                      refine AllReadyH.cons rfl (fun K hK => ?_) AllReadyH.nil
                      go_simp
                      refine hK.out _ _ trivial (fun _ => ?_)
                      clear hK K
                      try simp only [List.getElem_toArray, List.getElem_cons_succ, List.getElem_cons_zero, Act.put, List.setIfInBounds_toArray, List.set_cons_zero, List.set_cons_succ]
                      refine wpAnyH_done (by kernel_rfl) ?_ _
                      generalize w4.setCell ⟨bx, 0, none⟩ (.slice vd lr1.length vm) = wS at *
                      have eTS : Ext wT wS := ⟨ewT.below.trans (hbS.mono (by have := hB.out; omega))⟩
                      have e0z : Ext w0 wS := Ext.trans e0T eTS
                      clear OWa hoS hoP hoQ ho4 tc tf hownd
                      have tgE : wS.cell? ⟨bx, 1, none⟩ = some (.slice ed2 ER.length em2) := OWS.cellIn (.head _) (j := 1) (by omega)
                      go_upto_region 20 with fail
                      have ed : Ext wT (wS).drew := Ext.trans eTS inferInstance
                      refine wp_region_held_drew (S := fun w' => Ext wT w' ∧ w'.cell? ⟨w.heap.size, 0, none⟩ = some (.slice a1 M.length c1) ∧ w'.cell? ⟨w.heap.size, 1, none⟩ = some (.slice a2 S.length c2) ∧ w'.cell? ⟨b13, o13 + of_, none⟩ = some (.slice (some ⟨b14, o14, none⟩) S.length m13) ∧ w'.cell? ⟨b14, o14 + r, none⟩ = some (.int .i64 (cell g.G of_ r))) (by kernel_rfl) ⟨ed, ed.cell tk0, ed.cell tk1, ed.cell hc13, ed.cell hc14'⟩ (fun hHeld0 => ?_)
                      refine wpAnyH_take (i := 0) (v := .pointer (some ⟨bx, 0, none⟩)) rfl (by kernel_rfl) (by kernel_rfl) (by kernel_rfl) (fun _ _ _ h => h) (Or.inl ⟨by rfl, by intro wx hx; go_simp⟩) (by assumption) ?_
                      try simp only [List.getElem_toArray, List.getElem_cons_zero, Act.put, List.setIfInBounds_toArray, List.set_cons_zero, List.set_cons_succ]
                      refine wpAnyH_take (i := 1) (v := .pointer (some ⟨bx, 0, none⟩)) rfl (by kernel_rfl) (by kernel_rfl) (by kernel_rfl) (fun _ _ _ h => h) (Or.inl ⟨by rfl, by intro wx hx; go_simp⟩) (by assumption) ?_
                      try simp only [List.getElem_toArray, List.getElem_cons_succ, List.getElem_cons_zero, Act.put, List.setIfInBounds_toArray, List.set_cons_zero, List.set_cons_succ]
                      refine wpAnyH_take (i := 2) (v := .pointer (some ⟨bx, 0, none⟩)) rfl (by kernel_rfl) (by kernel_rfl) (by kernel_rfl) (fun _ _ _ h => h) (Or.inl ⟨by rfl, by intro wx hx; go_simp⟩) (by assumption) ?_
                      try simp only [List.getElem_toArray, List.getElem_cons_succ, List.getElem_cons_zero, Act.put, List.setIfInBounds_toArray, List.set_cons_zero, List.set_cons_succ]
                      refine wpAnyH_take (i := 3) (v := .pointer (some ⟨bx, 1, none⟩)) rfl (by kernel_rfl) (by kernel_rfl) (by kernel_rfl) (fun _ _ _ h => h) (Or.inl ⟨by rfl, by intro wx hx; go_simp⟩) (by assumption) ?_
                      try simp only [List.getElem_toArray, List.getElem_cons_succ, List.getElem_cons_zero, Act.put, List.setIfInBounds_toArray, List.set_cons_zero, List.set_cons_succ]
                      refine wpAnyH_take (i := 5) (v := .int .i64 m) rfl (by kernel_rfl) (by kernel_rfl) (by kernel_rfl) (fun _ _ _ h => h) (Or.inl ⟨by rfl, by intro wx hx; go_simp⟩) (by assumption) ?_
                      try simp only [List.getElem_toArray, List.getElem_cons_succ, List.getElem_cons_zero, Act.put, List.setIfInBounds_toArray, List.set_cons_zero, List.set_cons_succ]
                      refine wpAnyH_take (i := 6) (v := .int .i64 lr.length) rfl (by kernel_rfl) (by kernel_rfl) (by kernel_rfl) (fun _ _ _ h => h) (Or.inl ⟨by rfl, by intro wx hx; go_simp⟩) (by assumption) ?_
                      try simp only [List.getElem_toArray, List.getElem_cons_succ, List.getElem_cons_zero, Act.put, List.setIfInBounds_toArray, List.set_cons_zero, List.set_cons_succ]
                      refine wpAnyH_take (i := 7) (v := .agg #[.slice a1 M.length c1, .slice a2 S.length c2]) rfl (by kernel_rfl) (by kernel_rfl) (by kernel_rfl) (fun _ _ _ h => h) (Or.inl ⟨by rfl, by intro wx hx; obtain ⟨_, _, _, _, _⟩ := hx; go_simp⟩) (by assumption) ?_
                      try simp only [List.getElem_toArray, List.getElem_cons_succ, List.getElem_cons_zero, Act.put, List.setIfInBounds_toArray, List.set_cons_zero, List.set_cons_succ]
                      refine wpAnyH_take (i := 8) (v := .int .i64 st) rfl (by kernel_rfl) (by kernel_rfl) (by kernel_rfl) (fun _ _ _ h => h) (Or.inl ⟨by rfl, by intro wx hx; go_simp⟩) (by assumption) ?_
                      try simp only [List.getElem_toArray, List.getElem_cons_succ, List.getElem_cons_zero, Act.put, List.setIfInBounds_toArray, List.set_cons_zero, List.set_cons_succ]
                      refine wpAnyH_take (i := 9) (v := .int .i64 a) rfl (by kernel_rfl) (by kernel_rfl) (by kernel_rfl) (fun _ _ _ h => h) (Or.inl ⟨by rfl, by intro wx hx; go_simp⟩) (by assumption) ?_
                      try simp only [List.getElem_toArray, List.getElem_cons_succ, List.getElem_cons_zero, Act.put, List.setIfInBounds_toArray, List.set_cons_zero, List.set_cons_succ]
                      refine wpAnyH_take (i := 10) (v := .int .i64 r) rfl (by kernel_rfl) (by kernel_rfl) (by kernel_rfl) (fun _ _ _ h => h) (Or.inl ⟨by rfl, by intro wx hx; go_simp⟩) (by assumption) ?_
                      try simp only [List.getElem_toArray, List.getElem_cons_succ, List.getElem_cons_zero, Act.put, List.setIfInBounds_toArray, List.set_cons_zero, List.set_cons_succ]
                      refine wpAnyH_take (i := 12) (v := .slice (some ⟨b13, o13, none⟩) g.G.length gm) rfl (by kernel_rfl) (by kernel_rfl) (by kernel_rfl) (fun _ _ _ h => h) (Or.inl ⟨by rfl, by intro wx hx; go_simp⟩) (by assumption) ?_
                      try simp only [List.getElem_toArray, List.getElem_cons_succ, List.getElem_cons_zero, Act.put, List.setIfInBounds_toArray, List.set_cons_zero, List.set_cons_succ]
                      refine wpAnyH_take (i := 13) (v := .int .i64 of_) rfl (by kernel_rfl) (by kernel_rfl) (by kernel_rfl) (fun _ _ _ h => h) (Or.inl ⟨by rfl, by intro wx hx; go_simp⟩) (by assumption) ?_
                      try simp only [List.getElem_toArray, List.getElem_cons_succ, List.getElem_cons_zero, Act.put, List.setIfInBounds_toArray, List.set_cons_zero, List.set_cons_succ]
                      refine wpAnyH_take (i := 14) (v := .pointer (some ⟨b13, o13 + of_, none⟩)) rfl (by kernel_rfl) (by kernel_rfl) (by kernel_rfl) (fun _ _ _ h => h) (Or.inl ⟨by rfl, by intro wx hx; go_simp⟩) (by assumption) ?_
                      try simp only [List.getElem_toArray, List.getElem_cons_succ, List.getElem_cons_zero, Act.put, List.setIfInBounds_toArray, List.set_cons_zero, List.set_cons_succ]
                      refine wpAnyH_take (i := 15) (v := .slice (some ⟨b14, o14, none⟩) S.length m13) rfl (by kernel_rfl) (by kernel_rfl) (by kernel_rfl) (fun _ _ _ h => h) (Or.inl ⟨by rfl, by intro wx hx; obtain ⟨_, _, _, _, _⟩ := hx; go_simp⟩) (by assumption) ?_
                      try simp only [List.getElem_toArray, List.getElem_cons_succ, List.getElem_cons_zero, Act.put, List.setIfInBounds_toArray, List.set_cons_zero, List.set_cons_succ]
                      refine wpAnyH_take (i := 16) (v := .int .i64 r) rfl (by kernel_rfl) (by kernel_rfl) (by kernel_rfl) (fun _ _ _ h => h) (Or.inl ⟨by rfl, by intro wx hx; go_simp⟩) (by assumption) ?_
                      try simp only [List.getElem_toArray, List.getElem_cons_succ, List.getElem_cons_zero, Act.put, List.setIfInBounds_toArray, List.set_cons_zero, List.set_cons_succ]
                      refine wpAnyH_take (i := 17) (v := .pointer (some ⟨b14, o14 + r, none⟩)) rfl (by kernel_rfl) (by kernel_rfl) (by kernel_rfl) (fun _ _ _ h => h) (Or.inl ⟨by rfl, by intro wx hx; go_simp⟩) (by assumption) ?_
                      try simp only [List.getElem_toArray, List.getElem_cons_succ, List.getElem_cons_zero, Act.put, List.setIfInBounds_toArray, List.set_cons_zero, List.set_cons_succ]
                      refine wpAnyH_take (i := 18) (v := .int .i64 (cell g.G of_ r)) rfl (by kernel_rfl) (by kernel_rfl) (by kernel_rfl) (fun _ _ _ h => h) (Or.inl ⟨by rfl, by intro wx hx; obtain ⟨_, _, _, _, _⟩ := hx; go_simp⟩) (by assumption) ?_
                      try simp only [List.getElem_toArray, List.getElem_cons_succ, List.getElem_cons_zero, Act.put, List.setIfInBounds_toArray, List.set_cons_zero, List.set_cons_succ]
                      refine wpAnyH_ready (rs := [4, 11]) (by kernel_rfl) (by simp) ?_
                      refine AllReadyH.cons rfl (fun K hK => ?_) (AllReadyH.cons rfl (fun K hK => ?_) AllReadyH.nil)
                      · go_simp
                        refine hK.out _ _ hHeld0 (fun _ => ?_)
                        clear hK K
                        try simp only [List.getElem_toArray, List.getElem_cons_succ, List.getElem_cons_zero, Act.put, List.setIfInBounds_toArray, List.set_cons_zero, List.set_cons_succ]
                        refine wpAnyH_ready (rs := [11]) (by kernel_rfl) (by simp) ?_
                        refine AllReadyH.cons rfl (fun K hK => ?_) AllReadyH.nil
                        go_simp
                        go_at_call 47
                        refine (cost_any (s := a) (w0 := wS) (hM'.ext (w' := wS)) (hS'.ext (w' := wS)) hpr.out hcst.out.1.1 hcst.out.1.2 hcst.out.2.1.1 hcst.out.2.1.2 hcst.out.2.2.1 hcst.out.2.2.2).mono ?_
                        rw [hspd.out]
                        rintro e wc ⟨rfl, hbc⟩
                        go_wp2_with fail
                        have ec : Ext wT wc := Ext.trans ed hbc
                        refine hK.out _ _ ⟨ec, ec.cell tk0, ec.cell tk1, ec.cell hc13, ec.cell hc14'⟩ (fun _ => ?_)
                        clear hK K
                        try simp only [List.getElem_toArray, List.getElem_cons_succ, List.getElem_cons_zero, Act.put, List.setIfInBounds_toArray, List.set_cons_zero, List.set_cons_succ]
                        refine wpAnyH_take (i := 19) (v := .agg #[.int .i64 m, .int .i64 lr.length, .int .i64 sp, .int .i64 (cell g.G of_ r)]) rfl (by kernel_rfl) (by kernel_rfl) (by kernel_rfl) (fun _ _ _ h => h) (Or.inl ⟨by rfl, by intro wx hx; go_simp⟩) (by assumption) ?_
                        try simp only [List.getElem_toArray, List.getElem_cons_succ, List.getElem_cons_zero, Act.put, List.setIfInBounds_toArray, List.set_cons_zero, List.set_cons_succ]
                        refine wpAnyH_ready (rs := [20]) (by kernel_rfl) (by simp) ?_
                        refine AllReadyH.cons rfl (fun K hK => ?_) AllReadyH.nil
                        go_simp
                        have ea : Ext wT (wc.alloc (.cells #[.int .i64 m, .int .i64 lr.length, .int .i64 sp, .int .i64 (cell g.G of_ r)] 120)) := Ext.trans ec inferInstance
                        refine hK.out _ _ ⟨ea, ea.cell tk0, ea.cell tk1, ea.cell hc13, ea.cell hc14'⟩ (fun _ => ?_)
                        clear hK K
                        try simp only [List.getElem_toArray, List.getElem_cons_succ, List.getElem_cons_zero, Act.put, List.setIfInBounds_toArray, List.set_cons_zero, List.set_cons_succ]
                        have epc : Ext wS wc := Ext.trans (Ext.drew wS wS) hbc
                        have hBc : B ≤ wc.heap.size := Nat.le_trans hBS epc.size
                        have epa : Ext wS (wc.alloc (.cells #[.int .i64 m, .int .i64 lr.length, .int .i64 sp, .int .i64 (cell g.G of_ r)] 120)) := Ext.trans epc inferInstance
                        have OWa := Own.pull (A := [_, _]) (OWS.ext (w' := (wc.alloc (.cells #[.int .i64 m, .int .i64 lr.length, .int .i64 sp, .int .i64 (cell g.G of_ r)] 120))))
                        have hba : Below B wb (wc.alloc (.cells #[.int .i64 m, .int .i64 lr.length, .int .i64 sp, .int .i64 (cell g.G of_ r)] 120)) := (hbS.trans (epc.below.mono hBS)).alloc hBc _
                        have hBa : B ≤ (wc.alloc (.cells #[.int .i64 m, .int .i64 lr.length, .int .i64 sp, .int .i64 (cell g.G of_ r)] 120)).heap.size := by simp; omega
                        refine wpAnyH_ready (rs := [21]) (by kernel_rfl) (by simp) ?_
                        refine AllReadyH.cons rfl (fun K hK => ?_) AllReadyH.nil
                        refine step_append1z rfl (.tmp 122) (.tmp 138) 84 rfl elemEdge rfl OWa hBa (us := [.int .i64 m, .int .i64 lr.length, .int .i64 sp, .int .i64 (cell g.G of_ r)]) rfl rfl ?_ (by intro u hu; simp at hu; rcases hu with rfl | rfl | rfl | rfl <;> rfl) (by have := hEl.out; omega) (by have := hEl.out; omega) ?_
                        · intro jj u hj
                          match jj, hj with
                          | 0, hj => simp at hj; subst hj; go_simp
                          | 1, hj => simp at hj; subst hj; go_simp
                          | 2, hj => simp at hj; subst hj; go_simp
                          | 3, hj => simp at hj; subst hj; go_simp
                        intro v4 w4 ho4 hb4
                        obtain ⟨ed4, em4, hv4⟩ := ho4.form
                        have hv4' : v4 = .slice ed4 (ER.length + 1) em4 := hv4
                        subst hv4'
                        clear hv4
                        have eb : Ext wT w4 := ⟨ea.below.trans (hb4.mono (by have := hB.out; omega))⟩
                        have tc4 : w4.cell? ⟨bx, 1, none⟩ = some (.slice ed2 ER.length em2) := ho4.cellIn (.tail _ (.head _)) (j := 1) (by omega)
                        have tf4 := ho4.frozenIn (.tail _ (.head _)) 1
                        refine hK.out _ _ ⟨eb, eb.cell tk0, eb.cell tk1, eb.cell hc13, eb.cell hc14'⟩ (fun _ => ?_)
                        clear hK K
                        try simp only [List.getElem_toArray, List.getElem_cons_succ, List.getElem_cons_zero, Act.put, List.setIfInBounds_toArray, List.set_cons_zero, List.set_cons_succ]
                        have hbxB := ((ho4.1 _ (.tail _ (.head _))).lt bx rfl).1
                        have hoS := Own.setIn (A := [_]) ho4 1 (.slice ed4 (ER.length + 1) em4)
                        have hoP := flat_snoc (x := (m : Int) :: [(lr.length : Int), sp, cell g.G of_ r]) hoS rfl rfl
                        have hoQ := Own.push (A := [_, _]) hoP
                        have hbF : Below B wb (w4.setCell ⟨bx, 1, none⟩ (.slice ed4 (ER.length + 1) em4)) := (hba.trans hb4).setCell hbxB _
                        have ef : Ext wT (w4.setCell ⟨bx, 1, none⟩ (.slice ed4 (ER.length + 1) em4)) := ⟨ewT.below.trans (hbF.mono (by have := hB.out; omega))⟩
                        have hoF : Own (w4.setCell ⟨bx, 1, none⟩ (.slice ed4 (ER.length + 1) em4)) B (pxRows bx S.length vd ed4 vm em4 lr1 (ER ++ [(m : Int) :: stpRow g l m r])) := by
                          rw [hstp.out, hat.out]
                          unfold pxRows
                          rw [List.length_append]
                          exact hoQ
                        refine wpAnyH_take (i := 22) (v := .pointer (some ⟨bx, 0, none⟩)) rfl (by kernel_rfl) (by kernel_rfl) (by kernel_rfl) (fun _ _ _ h => h) (Or.inl ⟨by rfl, by intro wx hx; go_simp⟩) (by assumption) ?_
                        try simp only [List.getElem_toArray, List.getElem_cons_succ, List.getElem_cons_zero, Act.put, List.setIfInBounds_toArray, List.set_cons_zero, List.set_cons_succ]
                        refine wpAnyH_take (i := 23) (v := .pointer (some ⟨bx, 1, none⟩)) rfl (by kernel_rfl) (by kernel_rfl) (by kernel_rfl) (fun _ _ _ h => h) (Or.inl ⟨by rfl, by intro wx hx; go_simp⟩) (by assumption) ?_
                        try simp only [List.getElem_toArray, List.getElem_cons_succ, List.getElem_cons_zero, Act.put, List.setIfInBounds_toArray, List.set_cons_zero, List.set_cons_succ]
                        refine wpAnyH_ready (rs := [24]) (by kernel_rfl) (by simp) ?_
                        refine AllReadyH.cons rfl (fun K hK => ?_) AllReadyH.nil
                        go_simp
                        refine hK.out _ _ ⟨ef, ef.cell tk0, ef.cell tk1, ef.cell hc13, ef.cell hc14'⟩ (fun _ => ?_)
                        clear hK K
                        try simp only [List.getElem_toArray, List.getElem_cons_succ, List.getElem_cons_zero, Act.put, List.setIfInBounds_toArray, List.set_cons_zero, List.set_cons_succ]
                        refine wpAnyH_done (by kernel_rfl) ?_ _
                        replace hoF := hid hoF
                        replace hbF := hid hbF
                        clear hoS hoP hoQ ho4 OWa OWS hba hbS
                        go_wp2_with fail
                        go_roundw
                        case rel =>
                          refine ⟨r + 1, by omega, by go_num, ?_⟩
                          unfold PxRow
                          rw [hlr1.out, hER1'.out, hER1.out]
                          exact ⟨hbF.out, _, _, _, _, hoF.out⟩
                        case measure => simp [intOf]; omega
                      · go_simp
                        go_at_call 47
                        refine (cost_any (s := a) (w0 := wS) (hM'.ext (w' := wS)) (hS'.ext (w' := wS)) hpr.out hcst.out.1.1 hcst.out.1.2 hcst.out.2.1.1 hcst.out.2.1.2 hcst.out.2.2.1 hcst.out.2.2.2).mono ?_
                        rw [hspd.out]
                        rintro e wc ⟨rfl, hbc⟩
                        go_wp2_with fail
                        have ec : Ext wT wc := Ext.trans ed hbc
                        refine hK.out _ _ ⟨ec, ec.cell tk0, ec.cell tk1, ec.cell hc13, ec.cell hc14'⟩ (fun _ => ?_)
                        clear hK K
                        try simp only [List.getElem_toArray, List.getElem_cons_succ, List.getElem_cons_zero, Act.put, List.setIfInBounds_toArray, List.set_cons_zero, List.set_cons_succ]
                        refine wpAnyH_take (i := 19) (v := .agg #[.int .i64 m, .int .i64 lr.length, .int .i64 sp, .int .i64 (cell g.G of_ r)]) rfl (by kernel_rfl) (by kernel_rfl) (by kernel_rfl) (fun _ _ _ h => h) (Or.inl ⟨by rfl, by intro wx hx; go_simp⟩) (by assumption) ?_
                        try simp only [List.getElem_toArray, List.getElem_cons_succ, List.getElem_cons_zero, Act.put, List.setIfInBounds_toArray, List.set_cons_zero, List.set_cons_succ]
                        have tgw : wc.cell? ⟨bx, 1, none⟩ = some (.slice ed2 ER.length em2) := (Ext.trans (Ext.drew wS wS) hbc).cell tgE
                        refine wpAnyH_ready (rs := [4, 20]) (by kernel_rfl) (by simp) ?_
                        refine AllReadyH.cons rfl (fun K hK => ?_) (AllReadyH.cons rfl (fun K hK => ?_) AllReadyH.nil)
                        · go_simp
                          refine hK.out _ _ ⟨ec, ec.cell tk0, ec.cell tk1, ec.cell hc13, ec.cell hc14'⟩ (fun _ => ?_)
                          clear hK K
                          try simp only [List.getElem_toArray, List.getElem_cons_succ, List.getElem_cons_zero, Act.put, List.setIfInBounds_toArray, List.set_cons_zero, List.set_cons_succ]
                          refine wpAnyH_ready (rs := [20]) (by kernel_rfl) (by simp) ?_
                          refine AllReadyH.cons rfl (fun K hK => ?_) AllReadyH.nil
                          go_simp
                          have ea : Ext wT (wc.alloc (.cells #[.int .i64 m, .int .i64 lr.length, .int .i64 sp, .int .i64 (cell g.G of_ r)] 120)) := Ext.trans ec inferInstance
                          refine hK.out _ _ ⟨ea, ea.cell tk0, ea.cell tk1, ea.cell hc13, ea.cell hc14'⟩ (fun _ => ?_)
                          clear hK K
                          try simp only [List.getElem_toArray, List.getElem_cons_succ, List.getElem_cons_zero, Act.put, List.setIfInBounds_toArray, List.set_cons_zero, List.set_cons_succ]
                          have epc : Ext wS wc := Ext.trans (Ext.drew wS wS) hbc
                          have hBc : B ≤ wc.heap.size := Nat.le_trans hBS epc.size
                          have epa : Ext wS (wc.alloc (.cells #[.int .i64 m, .int .i64 lr.length, .int .i64 sp, .int .i64 (cell g.G of_ r)] 120)) := Ext.trans epc inferInstance
                          have OWa := Own.pull (A := [_, _]) (OWS.ext (w' := (wc.alloc (.cells #[.int .i64 m, .int .i64 lr.length, .int .i64 sp, .int .i64 (cell g.G of_ r)] 120))))
                          have hba : Below B wb (wc.alloc (.cells #[.int .i64 m, .int .i64 lr.length, .int .i64 sp, .int .i64 (cell g.G of_ r)] 120)) := (hbS.trans (epc.below.mono hBS)).alloc hBc _
                          have hBa : B ≤ (wc.alloc (.cells #[.int .i64 m, .int .i64 lr.length, .int .i64 sp, .int .i64 (cell g.G of_ r)] 120)).heap.size := by simp; omega
                          refine wpAnyH_ready (rs := [21]) (by kernel_rfl) (by simp) ?_
                          refine AllReadyH.cons rfl (fun K hK => ?_) AllReadyH.nil
                          refine step_append1z rfl (.tmp 122) (.tmp 138) 84 rfl elemEdge rfl OWa hBa (us := [.int .i64 m, .int .i64 lr.length, .int .i64 sp, .int .i64 (cell g.G of_ r)]) rfl rfl ?_ (by intro u hu; simp at hu; rcases hu with rfl | rfl | rfl | rfl <;> rfl) (by have := hEl.out; omega) (by have := hEl.out; omega) ?_
                          · intro jj u hj
                            match jj, hj with
                            | 0, hj => simp at hj; subst hj; go_simp
                            | 1, hj => simp at hj; subst hj; go_simp
                            | 2, hj => simp at hj; subst hj; go_simp
                            | 3, hj => simp at hj; subst hj; go_simp
                          intro v4 w4 ho4 hb4
                          obtain ⟨ed4, em4, hv4⟩ := ho4.form
                          have hv4' : v4 = .slice ed4 (ER.length + 1) em4 := hv4
                          subst hv4'
                          clear hv4
                          have eb : Ext wT w4 := ⟨ea.below.trans (hb4.mono (by have := hB.out; omega))⟩
                          have tc4 : w4.cell? ⟨bx, 1, none⟩ = some (.slice ed2 ER.length em2) := ho4.cellIn (.tail _ (.head _)) (j := 1) (by omega)
                          have tf4 := ho4.frozenIn (.tail _ (.head _)) 1
                          refine hK.out _ _ ⟨eb, eb.cell tk0, eb.cell tk1, eb.cell hc13, eb.cell hc14'⟩ (fun _ => ?_)
                          clear hK K
                          try simp only [List.getElem_toArray, List.getElem_cons_succ, List.getElem_cons_zero, Act.put, List.setIfInBounds_toArray, List.set_cons_zero, List.set_cons_succ]
                          have hbxB := ((ho4.1 _ (.tail _ (.head _))).lt bx rfl).1
                          have hoS := Own.setIn (A := [_]) ho4 1 (.slice ed4 (ER.length + 1) em4)
                          have hoP := flat_snoc (x := (m : Int) :: [(lr.length : Int), sp, cell g.G of_ r]) hoS rfl rfl
                          have hoQ := Own.push (A := [_, _]) hoP
                          have hbF : Below B wb (w4.setCell ⟨bx, 1, none⟩ (.slice ed4 (ER.length + 1) em4)) := (hba.trans hb4).setCell hbxB _
                          have ef : Ext wT (w4.setCell ⟨bx, 1, none⟩ (.slice ed4 (ER.length + 1) em4)) := ⟨ewT.below.trans (hbF.mono (by have := hB.out; omega))⟩
                          have hoF : Own (w4.setCell ⟨bx, 1, none⟩ (.slice ed4 (ER.length + 1) em4)) B (pxRows bx S.length vd ed4 vm em4 lr1 (ER ++ [(m : Int) :: stpRow g l m r])) := by
                            rw [hstp.out, hat.out]
                            unfold pxRows
                            rw [List.length_append]
                            exact hoQ
                          refine wpAnyH_take (i := 22) (v := .pointer (some ⟨bx, 0, none⟩)) rfl (by kernel_rfl) (by kernel_rfl) (by kernel_rfl) (fun _ _ _ h => h) (Or.inl ⟨by rfl, by intro wx hx; go_simp⟩) (by assumption) ?_
                          try simp only [List.getElem_toArray, List.getElem_cons_succ, List.getElem_cons_zero, Act.put, List.setIfInBounds_toArray, List.set_cons_zero, List.set_cons_succ]
                          refine wpAnyH_take (i := 23) (v := .pointer (some ⟨bx, 1, none⟩)) rfl (by kernel_rfl) (by kernel_rfl) (by kernel_rfl) (fun _ _ _ h => h) (Or.inl ⟨by rfl, by intro wx hx; go_simp⟩) (by assumption) ?_
                          try simp only [List.getElem_toArray, List.getElem_cons_succ, List.getElem_cons_zero, Act.put, List.setIfInBounds_toArray, List.set_cons_zero, List.set_cons_succ]
                          refine wpAnyH_ready (rs := [24]) (by kernel_rfl) (by simp) ?_
                          refine AllReadyH.cons rfl (fun K hK => ?_) AllReadyH.nil
                          go_simp
                          refine hK.out _ _ ⟨ef, ef.cell tk0, ef.cell tk1, ef.cell hc13, ef.cell hc14'⟩ (fun _ => ?_)
                          clear hK K
                          try simp only [List.getElem_toArray, List.getElem_cons_succ, List.getElem_cons_zero, Act.put, List.setIfInBounds_toArray, List.set_cons_zero, List.set_cons_succ]
                          refine wpAnyH_done (by kernel_rfl) ?_ _
                          replace hoF := hid hoF
                          replace hbF := hid hbF
                          clear hoS hoP hoQ ho4 OWa OWS hba hbS
                          go_wp2_with fail
                          go_roundw
                          case rel =>
                            refine ⟨r + 1, by omega, by go_num, ?_⟩
                            unfold PxRow
                            rw [hlr1.out, hER1'.out, hER1.out]
                            exact ⟨hbF.out, _, _, _, _, hoF.out⟩
                          case measure => simp [intOf]; omega
                        · go_simp
                          have ea : Ext wT (wc.alloc (.cells #[.int .i64 m, .int .i64 lr.length, .int .i64 sp, .int .i64 (cell g.G of_ r)] 120)) := Ext.trans ec inferInstance
                          refine hK.out _ _ ⟨ea, ea.cell tk0, ea.cell tk1, ea.cell hc13, ea.cell hc14'⟩ (fun _ => ?_)
                          clear hK K
                          try simp only [List.getElem_toArray, List.getElem_cons_succ, List.getElem_cons_zero, Act.put, List.setIfInBounds_toArray, List.set_cons_zero, List.set_cons_succ]
                          have tgw2 : (wc.alloc (.cells #[.int .i64 m, .int .i64 lr.length, .int .i64 sp, .int .i64 (cell g.G of_ r)] 120)).cell? ⟨bx, 1, none⟩ = some (.slice ed2 ER.length em2) := (inferInstance : Ext wc _).cell tgw
                          refine wpAnyH_ready (rs := [4]) (by kernel_rfl) (by simp) ?_
                          refine AllReadyH.cons rfl (fun K hK => ?_) AllReadyH.nil
                          go_simp
                          refine hK.out _ _ ⟨ea, ea.cell tk0, ea.cell tk1, ea.cell hc13, ea.cell hc14'⟩ (fun _ => ?_)
                          clear hK K
                          try simp only [List.getElem_toArray, List.getElem_cons_succ, List.getElem_cons_zero, Act.put, List.setIfInBounds_toArray, List.set_cons_zero, List.set_cons_succ]
                          have epc : Ext wS wc := Ext.trans (Ext.drew wS wS) hbc
                          have hBc : B ≤ wc.heap.size := Nat.le_trans hBS epc.size
                          have epa : Ext wS (wc.alloc (.cells #[.int .i64 m, .int .i64 lr.length, .int .i64 sp, .int .i64 (cell g.G of_ r)] 120)) := Ext.trans epc inferInstance
                          have OWa := Own.pull (A := [_, _]) (OWS.ext (w' := (wc.alloc (.cells #[.int .i64 m, .int .i64 lr.length, .int .i64 sp, .int .i64 (cell g.G of_ r)] 120))))
                          have hba : Below B wb (wc.alloc (.cells #[.int .i64 m, .int .i64 lr.length, .int .i64 sp, .int .i64 (cell g.G of_ r)] 120)) := (hbS.trans (epc.below.mono hBS)).alloc hBc _
                          have hBa : B ≤ (wc.alloc (.cells #[.int .i64 m, .int .i64 lr.length, .int .i64 sp, .int .i64 (cell g.G of_ r)] 120)).heap.size := by simp; omega
                          refine wpAnyH_ready (rs := [21]) (by kernel_rfl) (by simp) ?_
                          refine AllReadyH.cons rfl (fun K hK => ?_) AllReadyH.nil
                          refine step_append1z rfl (.tmp 122) (.tmp 138) 84 rfl elemEdge rfl OWa hBa (us := [.int .i64 m, .int .i64 lr.length, .int .i64 sp, .int .i64 (cell g.G of_ r)]) rfl rfl ?_ (by intro u hu; simp at hu; rcases hu with rfl | rfl | rfl | rfl <;> rfl) (by have := hEl.out; omega) (by have := hEl.out; omega) ?_
                          · intro jj u hj
                            match jj, hj with
                            | 0, hj => simp at hj; subst hj; go_simp
                            | 1, hj => simp at hj; subst hj; go_simp
                            | 2, hj => simp at hj; subst hj; go_simp
                            | 3, hj => simp at hj; subst hj; go_simp
                          intro v4 w4 ho4 hb4
                          obtain ⟨ed4, em4, hv4⟩ := ho4.form
                          have hv4' : v4 = .slice ed4 (ER.length + 1) em4 := hv4
                          subst hv4'
                          clear hv4
                          have eb : Ext wT w4 := ⟨ea.below.trans (hb4.mono (by have := hB.out; omega))⟩
                          have tc4 : w4.cell? ⟨bx, 1, none⟩ = some (.slice ed2 ER.length em2) := ho4.cellIn (.tail _ (.head _)) (j := 1) (by omega)
                          have tf4 := ho4.frozenIn (.tail _ (.head _)) 1
                          refine hK.out _ _ ⟨eb, eb.cell tk0, eb.cell tk1, eb.cell hc13, eb.cell hc14'⟩ (fun _ => ?_)
                          clear hK K
                          try simp only [List.getElem_toArray, List.getElem_cons_succ, List.getElem_cons_zero, Act.put, List.setIfInBounds_toArray, List.set_cons_zero, List.set_cons_succ]
                          have hbxB := ((ho4.1 _ (.tail _ (.head _))).lt bx rfl).1
                          have hoS := Own.setIn (A := [_]) ho4 1 (.slice ed4 (ER.length + 1) em4)
                          have hoP := flat_snoc (x := (m : Int) :: [(lr.length : Int), sp, cell g.G of_ r]) hoS rfl rfl
                          have hoQ := Own.push (A := [_, _]) hoP
                          have hbF : Below B wb (w4.setCell ⟨bx, 1, none⟩ (.slice ed4 (ER.length + 1) em4)) := (hba.trans hb4).setCell hbxB _
                          have ef : Ext wT (w4.setCell ⟨bx, 1, none⟩ (.slice ed4 (ER.length + 1) em4)) := ⟨ewT.below.trans (hbF.mono (by have := hB.out; omega))⟩
                          have hoF : Own (w4.setCell ⟨bx, 1, none⟩ (.slice ed4 (ER.length + 1) em4)) B (pxRows bx S.length vd ed4 vm em4 lr1 (ER ++ [(m : Int) :: stpRow g l m r])) := by
                            rw [hstp.out, hat.out]
                            unfold pxRows
                            rw [List.length_append]
                            exact hoQ
                          refine wpAnyH_take (i := 22) (v := .pointer (some ⟨bx, 0, none⟩)) rfl (by kernel_rfl) (by kernel_rfl) (by kernel_rfl) (fun _ _ _ h => h) (Or.inl ⟨by rfl, by intro wx hx; go_simp⟩) (by assumption) ?_
                          try simp only [List.getElem_toArray, List.getElem_cons_succ, List.getElem_cons_zero, Act.put, List.setIfInBounds_toArray, List.set_cons_zero, List.set_cons_succ]
                          refine wpAnyH_take (i := 23) (v := .pointer (some ⟨bx, 1, none⟩)) rfl (by kernel_rfl) (by kernel_rfl) (by kernel_rfl) (fun _ _ _ h => h) (Or.inl ⟨by rfl, by intro wx hx; go_simp⟩) (by assumption) ?_
                          try simp only [List.getElem_toArray, List.getElem_cons_succ, List.getElem_cons_zero, Act.put, List.setIfInBounds_toArray, List.set_cons_zero, List.set_cons_succ]
                          refine wpAnyH_ready (rs := [24]) (by kernel_rfl) (by simp) ?_
                          refine AllReadyH.cons rfl (fun K hK => ?_) AllReadyH.nil
                          go_simp
                          refine hK.out _ _ ⟨ef, ef.cell tk0, ef.cell tk1, ef.cell hc13, ef.cell hc14'⟩ (fun _ => ?_)
                          clear hK K
                          try simp only [List.getElem_toArray, List.getElem_cons_succ, List.getElem_cons_zero, Act.put, List.setIfInBounds_toArray, List.set_cons_zero, List.set_cons_succ]
                          refine wpAnyH_done (by kernel_rfl) ?_ _
                          replace hoF := hid hoF
                          replace hbF := hid hbF
                          clear hoS hoP hoQ ho4 OWa OWS hba hbS
                          go_wp2_with fail
                          go_roundw
                          case rel =>
                            refine ⟨r + 1, by omega, by go_num, ?_⟩
                            unfold PxRow
                            rw [hlr1.out, hER1'.out, hER1.out]
                            exact ⟨hbF.out, _, _, _, _, hoF.out⟩
                          case measure => simp [intOf]; omega
                    · go_simp
                      refine hK.out _ _ trivial (fun _ => ?_)
                      clear hK K
                      try simp only [List.getElem_toArray, List.getElem_cons_succ, List.getElem_cons_zero, Act.put, List.setIfInBounds_toArray, List.set_cons_zero, List.set_cons_succ]
                      have tga : (wy.alloc (.cells #[.int .i64 a, .int .i64 b] 59)).cell? ⟨bx, 0, none⟩ = some (.slice pd2 lr.length pm2) := Ext.cell (a := wy) inferInstance tgd
                      refine wpAnyH_ready (rs := [4]) (by kernel_rfl) (by simp) ?_
                      refine AllReadyH.cons rfl (fun K hK => ?_) AllReadyH.nil
                      go_simp
                      refine hK.out _ _ trivial (fun _ => ?_)
                      clear hK K
                      try simp only [List.getElem_toArray, List.getElem_cons_succ, List.getElem_cons_zero, Act.put, List.setIfInBounds_toArray, List.set_cons_zero, List.set_cons_succ]
                      have OWa := hownd.ext (w' := (wy.alloc (.cells #[.int .i64 a, .int .i64 b] 59)))
                      have hBa : B ≤ ((wy.alloc (.cells #[.int .i64 a, .int .i64 b] 59))).heap.size := by simp; omega
                      refine wpAnyH_ready (rs := [7]) (by kernel_rfl) (by simp) ?_
                      refine AllReadyH.cons rfl (fun K hK => ?_) AllReadyH.nil
                      refine step_append1z rfl (.tmp 112) (.tmp 114) 48 rfl elemPair rfl OWa hBa (us := [.int .i64 a, .int .i64 b]) rfl rfl ?_ (by intro u hu; simp at hu; rcases hu with rfl | rfl <;> rfl) (by omega) (by omega) ?_
                      · intro jj u hj
                        match jj, hj with
                        | 0, hj => simp at hj; subst hj; go_simp
                        | 1, hj => simp at hj; subst hj; go_simp
                      intro v4 w4 ho4 hb4
                      obtain ⟨vd, vm, hv4⟩ := ho4.form
                      have hv4' : v4 = .slice vd lr1.length vm := by rw [← hl1.out]; exact hv4
                      subst hv4'
                      clear hv4
                      have tc : w4.cell? ⟨bx, 0, none⟩ = some (.slice pd2 lr.length pm2) := ho4.cellIn (.tail _ (.head _)) (j := 0) (by omega)
                      have tf := ho4.frozenIn (.tail _ (.head _)) 0
                      refine hK.out _ _ trivial (fun _ => ?_)
                      clear hK K
                      try simp only [List.getElem_toArray, List.getElem_cons_succ, List.getElem_cons_zero, Act.put, List.setIfInBounds_toArray, List.set_cons_zero, List.set_cons_succ]
                      have hbxB := ((ho4.1 _ (.tail _ (.head _))).lt bx rfl).1
                      have hoS := Own.setIn (A := [_]) ho4 0 (.slice vd lr1.length vm)
                      have hoP := flat_snoc (x := [(a : Int), (b : Int)]) hoS rfl rfl
                      have hoQ := Own.push (A := [_]) hoP
                      have OWS : Own (w4.setCell ⟨bx, 0, none⟩ (.slice vd lr1.length vm)) B (pxRows bx S.length vd ed2 vm em2 lr1 ER) := by
                        unfold pxRows
                        rw [hL1.out] at hoQ ⊢
                        exact hoQ
                      have hbS : Below B wb (w4.setCell ⟨bx, 0, none⟩ (.slice vd lr1.length vm)) := ((hbd.alloc hBd _).trans hb4).setCell hbxB _
                      have hBS : B ≤ (w4.setCell ⟨bx, 0, none⟩ (.slice vd lr1.length vm)).heap.size := by have := hb4.size; simp [World.setCell]; simp at this; omega
                      refine wpAnyH_take (i := 8) (v := .pointer (some ⟨bx, 0, none⟩)) rfl (by kernel_rfl) (by kernel_rfl) (by kernel_rfl) (fun _ _ _ h => h) (Or.inl ⟨by rfl, by intro wx hx; go_simp⟩) (by assumption) ?_
                      try simp only [List.getElem_toArray, List.getElem_cons_succ, List.getElem_cons_zero, Act.put, List.setIfInBounds_toArray, List.set_cons_zero, List.set_cons_succ]
                      refine wpAnyH_take (i := 9) (v := .pointer (some ⟨bx, 0, none⟩)) rfl (by kernel_rfl) (by kernel_rfl) (by kernel_rfl) (fun _ _ _ h => h) (Or.inl ⟨by rfl, by intro wx hx; go_simp⟩) (by assumption) ?_
                      try simp only [List.getElem_toArray, List.getElem_cons_succ, List.getElem_cons_zero, Act.put, List.setIfInBounds_toArray, List.set_cons_zero, List.set_cons_succ]
                      refine wpAnyH_ready (rs := [10]) (by kernel_rfl) (by simp) ?_
                      refine AllReadyH.cons rfl (fun K hK => ?_) AllReadyH.nil
                      go_simp
                      refine hK.out _ _ trivial (fun _ => ?_)
                      clear hK K
                      try simp only [List.getElem_toArray, List.getElem_cons_succ, List.getElem_cons_zero, Act.put, List.setIfInBounds_toArray, List.set_cons_zero, List.set_cons_succ]
                      refine wpAnyH_done (by kernel_rfl) ?_ _
                      generalize w4.setCell ⟨bx, 0, none⟩ (.slice vd lr1.length vm) = wS at *
                      have eTS : Ext wT wS := ⟨ewT.below.trans (hbS.mono (by have := hB.out; omega))⟩
                      have e0z : Ext w0 wS := Ext.trans e0T eTS
                      clear OWa hoS hoP hoQ ho4 tc tf hownd
                      have tgE : wS.cell? ⟨bx, 1, none⟩ = some (.slice ed2 ER.length em2) := OWS.cellIn (.head _) (j := 1) (by omega)
                      go_upto_region 20 with fail
                      have ed : Ext wT (wS).drew := Ext.trans eTS inferInstance
                      refine wp_region_held_drew (S := fun w' => Ext wT w' ∧ w'.cell? ⟨w.heap.size, 0, none⟩ = some (.slice a1 M.length c1) ∧ w'.cell? ⟨w.heap.size, 1, none⟩ = some (.slice a2 S.length c2) ∧ w'.cell? ⟨b13, o13 + of_, none⟩ = some (.slice (some ⟨b14, o14, none⟩) S.length m13) ∧ w'.cell? ⟨b14, o14 + r, none⟩ = some (.int .i64 (cell g.G of_ r))) (by kernel_rfl) ⟨ed, ed.cell tk0, ed.cell tk1, ed.cell hc13, ed.cell hc14'⟩ (fun hHeld0 => ?_)
                      refine wpAnyH_take (i := 0) (v := .pointer (some ⟨bx, 0, none⟩)) rfl (by kernel_rfl) (by kernel_rfl) (by kernel_rfl) (fun _ _ _ h => h) (Or.inl ⟨by rfl, by intro wx hx; go_simp⟩) (by assumption) ?_
                      try simp only [List.getElem_toArray, List.getElem_cons_zero, Act.put, List.setIfInBounds_toArray, List.set_cons_zero, List.set_cons_succ]
                      refine wpAnyH_take (i := 1) (v := .pointer (some ⟨bx, 0, none⟩)) rfl (by kernel_rfl) (by kernel_rfl) (by kernel_rfl) (fun _ _ _ h => h) (Or.inl ⟨by rfl, by intro wx hx; go_simp⟩) (by assumption) ?_
                      try simp only [List.getElem_toArray, List.getElem_cons_succ, List.getElem_cons_zero, Act.put, List.setIfInBounds_toArray, List.set_cons_zero, List.set_cons_succ]
                      refine wpAnyH_take (i := 2) (v := .pointer (some ⟨bx, 0, none⟩)) rfl (by kernel_rfl) (by kernel_rfl) (by kernel_rfl) (fun _ _ _ h => h) (Or.inl ⟨by rfl, by intro wx hx; go_simp⟩) (by assumption) ?_
                      try simp only [List.getElem_toArray, List.getElem_cons_succ, List.getElem_cons_zero, Act.put, List.setIfInBounds_toArray, List.set_cons_zero, List.set_cons_succ]
                      refine wpAnyH_take (i := 3) (v := .pointer (some ⟨bx, 1, none⟩)) rfl (by kernel_rfl) (by kernel_rfl) (by kernel_rfl) (fun _ _ _ h => h) (Or.inl ⟨by rfl, by intro wx hx; go_simp⟩) (by assumption) ?_
                      try simp only [List.getElem_toArray, List.getElem_cons_succ, List.getElem_cons_zero, Act.put, List.setIfInBounds_toArray, List.set_cons_zero, List.set_cons_succ]
                      refine wpAnyH_take (i := 5) (v := .int .i64 m) rfl (by kernel_rfl) (by kernel_rfl) (by kernel_rfl) (fun _ _ _ h => h) (Or.inl ⟨by rfl, by intro wx hx; go_simp⟩) (by assumption) ?_
                      try simp only [List.getElem_toArray, List.getElem_cons_succ, List.getElem_cons_zero, Act.put, List.setIfInBounds_toArray, List.set_cons_zero, List.set_cons_succ]
                      refine wpAnyH_take (i := 6) (v := .int .i64 lr.length) rfl (by kernel_rfl) (by kernel_rfl) (by kernel_rfl) (fun _ _ _ h => h) (Or.inl ⟨by rfl, by intro wx hx; go_simp⟩) (by assumption) ?_
                      try simp only [List.getElem_toArray, List.getElem_cons_succ, List.getElem_cons_zero, Act.put, List.setIfInBounds_toArray, List.set_cons_zero, List.set_cons_succ]
                      refine wpAnyH_take (i := 7) (v := .agg #[.slice a1 M.length c1, .slice a2 S.length c2]) rfl (by kernel_rfl) (by kernel_rfl) (by kernel_rfl) (fun _ _ _ h => h) (Or.inl ⟨by rfl, by intro wx hx; obtain ⟨_, _, _, _, _⟩ := hx; go_simp⟩) (by assumption) ?_
                      try simp only [List.getElem_toArray, List.getElem_cons_succ, List.getElem_cons_zero, Act.put, List.setIfInBounds_toArray, List.set_cons_zero, List.set_cons_succ]
                      refine wpAnyH_take (i := 8) (v := .int .i64 st) rfl (by kernel_rfl) (by kernel_rfl) (by kernel_rfl) (fun _ _ _ h => h) (Or.inl ⟨by rfl, by intro wx hx; go_simp⟩) (by assumption) ?_
                      try simp only [List.getElem_toArray, List.getElem_cons_succ, List.getElem_cons_zero, Act.put, List.setIfInBounds_toArray, List.set_cons_zero, List.set_cons_succ]
                      refine wpAnyH_take (i := 9) (v := .int .i64 a) rfl (by kernel_rfl) (by kernel_rfl) (by kernel_rfl) (fun _ _ _ h => h) (Or.inl ⟨by rfl, by intro wx hx; go_simp⟩) (by assumption) ?_
                      try simp only [List.getElem_toArray, List.getElem_cons_succ, List.getElem_cons_zero, Act.put, List.setIfInBounds_toArray, List.set_cons_zero, List.set_cons_succ]
                      refine wpAnyH_take (i := 10) (v := .int .i64 r) rfl (by kernel_rfl) (by kernel_rfl) (by kernel_rfl) (fun _ _ _ h => h) (Or.inl ⟨by rfl, by intro wx hx; go_simp⟩) (by assumption) ?_
                      try simp only [List.getElem_toArray, List.getElem_cons_succ, List.getElem_cons_zero, Act.put, List.setIfInBounds_toArray, List.set_cons_zero, List.set_cons_succ]
                      refine wpAnyH_take (i := 12) (v := .slice (some ⟨b13, o13, none⟩) g.G.length gm) rfl (by kernel_rfl) (by kernel_rfl) (by kernel_rfl) (fun _ _ _ h => h) (Or.inl ⟨by rfl, by intro wx hx; go_simp⟩) (by assumption) ?_
                      try simp only [List.getElem_toArray, List.getElem_cons_succ, List.getElem_cons_zero, Act.put, List.setIfInBounds_toArray, List.set_cons_zero, List.set_cons_succ]
                      refine wpAnyH_take (i := 13) (v := .int .i64 of_) rfl (by kernel_rfl) (by kernel_rfl) (by kernel_rfl) (fun _ _ _ h => h) (Or.inl ⟨by rfl, by intro wx hx; go_simp⟩) (by assumption) ?_
                      try simp only [List.getElem_toArray, List.getElem_cons_succ, List.getElem_cons_zero, Act.put, List.setIfInBounds_toArray, List.set_cons_zero, List.set_cons_succ]
                      refine wpAnyH_take (i := 14) (v := .pointer (some ⟨b13, o13 + of_, none⟩)) rfl (by kernel_rfl) (by kernel_rfl) (by kernel_rfl) (fun _ _ _ h => h) (Or.inl ⟨by rfl, by intro wx hx; go_simp⟩) (by assumption) ?_
                      try simp only [List.getElem_toArray, List.getElem_cons_succ, List.getElem_cons_zero, Act.put, List.setIfInBounds_toArray, List.set_cons_zero, List.set_cons_succ]
                      refine wpAnyH_take (i := 15) (v := .slice (some ⟨b14, o14, none⟩) S.length m13) rfl (by kernel_rfl) (by kernel_rfl) (by kernel_rfl) (fun _ _ _ h => h) (Or.inl ⟨by rfl, by intro wx hx; obtain ⟨_, _, _, _, _⟩ := hx; go_simp⟩) (by assumption) ?_
                      try simp only [List.getElem_toArray, List.getElem_cons_succ, List.getElem_cons_zero, Act.put, List.setIfInBounds_toArray, List.set_cons_zero, List.set_cons_succ]
                      refine wpAnyH_take (i := 16) (v := .int .i64 r) rfl (by kernel_rfl) (by kernel_rfl) (by kernel_rfl) (fun _ _ _ h => h) (Or.inl ⟨by rfl, by intro wx hx; go_simp⟩) (by assumption) ?_
                      try simp only [List.getElem_toArray, List.getElem_cons_succ, List.getElem_cons_zero, Act.put, List.setIfInBounds_toArray, List.set_cons_zero, List.set_cons_succ]
                      refine wpAnyH_take (i := 17) (v := .pointer (some ⟨b14, o14 + r, none⟩)) rfl (by kernel_rfl) (by kernel_rfl) (by kernel_rfl) (fun _ _ _ h => h) (Or.inl ⟨by rfl, by intro wx hx; go_simp⟩) (by assumption) ?_
                      try simp only [List.getElem_toArray, List.getElem_cons_succ, List.getElem_cons_zero, Act.put, List.setIfInBounds_toArray, List.set_cons_zero, List.set_cons_succ]
                      refine wpAnyH_take (i := 18) (v := .int .i64 (cell g.G of_ r)) rfl (by kernel_rfl) (by kernel_rfl) (by kernel_rfl) (fun _ _ _ h => h) (Or.inl ⟨by rfl, by intro wx hx; obtain ⟨_, _, _, _, _⟩ := hx; go_simp⟩) (by assumption) ?_
                      try simp only [List.getElem_toArray, List.getElem_cons_succ, List.getElem_cons_zero, Act.put, List.setIfInBounds_toArray, List.set_cons_zero, List.set_cons_succ]
                      refine wpAnyH_ready (rs := [4, 11]) (by kernel_rfl) (by simp) ?_
                      refine AllReadyH.cons rfl (fun K hK => ?_) (AllReadyH.cons rfl (fun K hK => ?_) AllReadyH.nil)
                      · go_simp
                        refine hK.out _ _ hHeld0 (fun _ => ?_)
                        clear hK K
                        try simp only [List.getElem_toArray, List.getElem_cons_succ, List.getElem_cons_zero, Act.put, List.setIfInBounds_toArray, List.set_cons_zero, List.set_cons_succ]
                        refine wpAnyH_ready (rs := [11]) (by kernel_rfl) (by simp) ?_
                        refine AllReadyH.cons rfl (fun K hK => ?_) AllReadyH.nil
                        go_simp
                        go_at_call 47
                        refine (cost_any (s := a) (w0 := wS) (hM'.ext (w' := wS)) (hS'.ext (w' := wS)) hpr.out hcst.out.1.1 hcst.out.1.2 hcst.out.2.1.1 hcst.out.2.1.2 hcst.out.2.2.1 hcst.out.2.2.2).mono ?_
                        rw [hspd.out]
                        rintro e wc ⟨rfl, hbc⟩
                        go_wp2_with fail
                        have ec : Ext wT wc := Ext.trans ed hbc
                        refine hK.out _ _ ⟨ec, ec.cell tk0, ec.cell tk1, ec.cell hc13, ec.cell hc14'⟩ (fun _ => ?_)
                        clear hK K
                        try simp only [List.getElem_toArray, List.getElem_cons_succ, List.getElem_cons_zero, Act.put, List.setIfInBounds_toArray, List.set_cons_zero, List.set_cons_succ]
                        refine wpAnyH_take (i := 19) (v := .agg #[.int .i64 m, .int .i64 lr.length, .int .i64 sp, .int .i64 (cell g.G of_ r)]) rfl (by kernel_rfl) (by kernel_rfl) (by kernel_rfl) (fun _ _ _ h => h) (Or.inl ⟨by rfl, by intro wx hx; go_simp⟩) (by assumption) ?_
                        try simp only [List.getElem_toArray, List.getElem_cons_succ, List.getElem_cons_zero, Act.put, List.setIfInBounds_toArray, List.set_cons_zero, List.set_cons_succ]
                        refine wpAnyH_ready (rs := [20]) (by kernel_rfl) (by simp) ?_
                        refine AllReadyH.cons rfl (fun K hK => ?_) AllReadyH.nil
                        go_simp
                        have ea : Ext wT (wc.alloc (.cells #[.int .i64 m, .int .i64 lr.length, .int .i64 sp, .int .i64 (cell g.G of_ r)] 120)) := Ext.trans ec inferInstance
                        refine hK.out _ _ ⟨ea, ea.cell tk0, ea.cell tk1, ea.cell hc13, ea.cell hc14'⟩ (fun _ => ?_)
                        clear hK K
                        try simp only [List.getElem_toArray, List.getElem_cons_succ, List.getElem_cons_zero, Act.put, List.setIfInBounds_toArray, List.set_cons_zero, List.set_cons_succ]
                        have epc : Ext wS wc := Ext.trans (Ext.drew wS wS) hbc
                        have hBc : B ≤ wc.heap.size := Nat.le_trans hBS epc.size
                        have epa : Ext wS (wc.alloc (.cells #[.int .i64 m, .int .i64 lr.length, .int .i64 sp, .int .i64 (cell g.G of_ r)] 120)) := Ext.trans epc inferInstance
                        have OWa := Own.pull (A := [_, _]) (OWS.ext (w' := (wc.alloc (.cells #[.int .i64 m, .int .i64 lr.length, .int .i64 sp, .int .i64 (cell g.G of_ r)] 120))))
                        have hba : Below B wb (wc.alloc (.cells #[.int .i64 m, .int .i64 lr.length, .int .i64 sp, .int .i64 (cell g.G of_ r)] 120)) := (hbS.trans (epc.below.mono hBS)).alloc hBc _
                        have hBa : B ≤ (wc.alloc (.cells #[.int .i64 m, .int .i64 lr.length, .int .i64 sp, .int .i64 (cell g.G of_ r)] 120)).heap.size := by simp; omega
                        refine wpAnyH_ready (rs := [21]) (by kernel_rfl) (by simp) ?_
                        refine AllReadyH.cons rfl (fun K hK => ?_) AllReadyH.nil
                        refine step_append1z rfl (.tmp 122) (.tmp 138) 84 rfl elemEdge rfl OWa hBa (us := [.int .i64 m, .int .i64 lr.length, .int .i64 sp, .int .i64 (cell g.G of_ r)]) rfl rfl ?_ (by intro u hu; simp at hu; rcases hu with rfl | rfl | rfl | rfl <;> rfl) (by have := hEl.out; omega) (by have := hEl.out; omega) ?_
                        · intro jj u hj
                          match jj, hj with
                          | 0, hj => simp at hj; subst hj; go_simp
                          | 1, hj => simp at hj; subst hj; go_simp
                          | 2, hj => simp at hj; subst hj; go_simp
                          | 3, hj => simp at hj; subst hj; go_simp
                        intro v4 w4 ho4 hb4
                        obtain ⟨ed4, em4, hv4⟩ := ho4.form
                        have hv4' : v4 = .slice ed4 (ER.length + 1) em4 := hv4
                        subst hv4'
                        clear hv4
                        have eb : Ext wT w4 := ⟨ea.below.trans (hb4.mono (by have := hB.out; omega))⟩
                        have tc4 : w4.cell? ⟨bx, 1, none⟩ = some (.slice ed2 ER.length em2) := ho4.cellIn (.tail _ (.head _)) (j := 1) (by omega)
                        have tf4 := ho4.frozenIn (.tail _ (.head _)) 1
                        refine hK.out _ _ ⟨eb, eb.cell tk0, eb.cell tk1, eb.cell hc13, eb.cell hc14'⟩ (fun _ => ?_)
                        clear hK K
                        try simp only [List.getElem_toArray, List.getElem_cons_succ, List.getElem_cons_zero, Act.put, List.setIfInBounds_toArray, List.set_cons_zero, List.set_cons_succ]
                        have hbxB := ((ho4.1 _ (.tail _ (.head _))).lt bx rfl).1
                        have hoS := Own.setIn (A := [_]) ho4 1 (.slice ed4 (ER.length + 1) em4)
                        have hoP := flat_snoc (x := (m : Int) :: [(lr.length : Int), sp, cell g.G of_ r]) hoS rfl rfl
                        have hoQ := Own.push (A := [_, _]) hoP
                        have hbF : Below B wb (w4.setCell ⟨bx, 1, none⟩ (.slice ed4 (ER.length + 1) em4)) := (hba.trans hb4).setCell hbxB _
                        have ef : Ext wT (w4.setCell ⟨bx, 1, none⟩ (.slice ed4 (ER.length + 1) em4)) := ⟨ewT.below.trans (hbF.mono (by have := hB.out; omega))⟩
                        have hoF : Own (w4.setCell ⟨bx, 1, none⟩ (.slice ed4 (ER.length + 1) em4)) B (pxRows bx S.length vd ed4 vm em4 lr1 (ER ++ [(m : Int) :: stpRow g l m r])) := by
                          rw [hstp.out, hat.out]
                          unfold pxRows
                          rw [List.length_append]
                          exact hoQ
                        refine wpAnyH_take (i := 22) (v := .pointer (some ⟨bx, 0, none⟩)) rfl (by kernel_rfl) (by kernel_rfl) (by kernel_rfl) (fun _ _ _ h => h) (Or.inl ⟨by rfl, by intro wx hx; go_simp⟩) (by assumption) ?_
                        try simp only [List.getElem_toArray, List.getElem_cons_succ, List.getElem_cons_zero, Act.put, List.setIfInBounds_toArray, List.set_cons_zero, List.set_cons_succ]
                        refine wpAnyH_take (i := 23) (v := .pointer (some ⟨bx, 1, none⟩)) rfl (by kernel_rfl) (by kernel_rfl) (by kernel_rfl) (fun _ _ _ h => h) (Or.inl ⟨by rfl, by intro wx hx; go_simp⟩) (by assumption) ?_
                        try simp only [List.getElem_toArray, List.getElem_cons_succ, List.getElem_cons_zero, Act.put, List.setIfInBounds_toArray, List.set_cons_zero, List.set_cons_succ]
                        refine wpAnyH_ready (rs := [24]) (by kernel_rfl) (by simp) ?_
                        refine AllReadyH.cons rfl (fun K hK => ?_) AllReadyH.nil
                        go_simp
                        refine hK.out _ _ ⟨ef, ef.cell tk0, ef.cell tk1, ef.cell hc13, ef.cell hc14'⟩ (fun _ => ?_)
                        clear hK K
                        try simp only [List.getElem_toArray, List.getElem_cons_succ, List.getElem_cons_zero, Act.put, List.setIfInBounds_toArray, List.set_cons_zero, List.set_cons_succ]
                        refine wpAnyH_done (by kernel_rfl) ?_ _
                        replace hoF := hid hoF
                        replace hbF := hid hbF
                        clear hoS hoP hoQ ho4 OWa OWS hba hbS
                        go_wp2_with fail
                        go_roundw
                        case rel =>
                          refine ⟨r + 1, by omega, by go_num, ?_⟩
                          unfold PxRow
                          rw [hlr1.out, hER1'.out, hER1.out]
                          exact ⟨hbF.out, _, _, _, _, hoF.out⟩
                        case measure => simp [intOf]; omega
                      · go_simp
                        go_at_call 47
                        refine (cost_any (s := a) (w0 := wS) (hM'.ext (w' := wS)) (hS'.ext (w' := wS)) hpr.out hcst.out.1.1 hcst.out.1.2 hcst.out.2.1.1 hcst.out.2.1.2 hcst.out.2.2.1 hcst.out.2.2.2).mono ?_
                        rw [hspd.out]
                        rintro e wc ⟨rfl, hbc⟩
                        go_wp2_with fail
                        have ec : Ext wT wc := Ext.trans ed hbc
                        refine hK.out _ _ ⟨ec, ec.cell tk0, ec.cell tk1, ec.cell hc13, ec.cell hc14'⟩ (fun _ => ?_)
                        clear hK K
                        try simp only [List.getElem_toArray, List.getElem_cons_succ, List.getElem_cons_zero, Act.put, List.setIfInBounds_toArray, List.set_cons_zero, List.set_cons_succ]
                        refine wpAnyH_take (i := 19) (v := .agg #[.int .i64 m, .int .i64 lr.length, .int .i64 sp, .int .i64 (cell g.G of_ r)]) rfl (by kernel_rfl) (by kernel_rfl) (by kernel_rfl) (fun _ _ _ h => h) (Or.inl ⟨by rfl, by intro wx hx; go_simp⟩) (by assumption) ?_
                        try simp only [List.getElem_toArray, List.getElem_cons_succ, List.getElem_cons_zero, Act.put, List.setIfInBounds_toArray, List.set_cons_zero, List.set_cons_succ]
                        have tgw : wc.cell? ⟨bx, 1, none⟩ = some (.slice ed2 ER.length em2) := (Ext.trans (Ext.drew wS wS) hbc).cell tgE
                        refine wpAnyH_ready (rs := [4, 20]) (by kernel_rfl) (by simp) ?_
                        refine AllReadyH.cons rfl (fun K hK => ?_) (AllReadyH.cons rfl (fun K hK => ?_) AllReadyH.nil)
                        · go_simp
                          refine hK.out _ _ ⟨ec, ec.cell tk0, ec.cell tk1, ec.cell hc13, ec.cell hc14'⟩ (fun _ => ?_)
                          clear hK K
                          try simp only [List.getElem_toArray, List.getElem_cons_succ, List.getElem_cons_zero, Act.put, List.setIfInBounds_toArray, List.set_cons_zero, List.set_cons_succ]
                          refine wpAnyH_ready (rs := [20]) (by kernel_rfl) (by simp) ?_
                          refine AllReadyH.cons rfl (fun K hK => ?_) AllReadyH.nil
                          go_simp
                          have ea : Ext wT (wc.alloc (.cells #[.int .i64 m, .int .i64 lr.length, .int .i64 sp, .int .i64 (cell g.G of_ r)] 120)) := Ext.trans ec inferInstance
                          refine hK.out _ _ ⟨ea, ea.cell tk0, ea.cell tk1, ea.cell hc13, ea.cell hc14'⟩ (fun _ => ?_)
                          clear hK K
                          try simp only [List.getElem_toArray, List.getElem_cons_succ, List.getElem_cons_zero, Act.put, List.setIfInBounds_toArray, List.set_cons_zero, List.set_cons_succ]
                          have epc : Ext wS wc := Ext.trans (Ext.drew wS wS) hbc
                          have hBc : B ≤ wc.heap.size := Nat.le_trans hBS epc.size
                          have epa : Ext wS (wc.alloc (.cells #[.int .i64 m, .int .i64 lr.length, .int .i64 sp, .int .i64 (cell g.G of_ r)] 120)) := Ext.trans epc inferInstance
                          have OWa := Own.pull (A := [_, _]) (OWS.ext (w' := (wc.alloc (.cells #[.int .i64 m, .int .i64 lr.length, .int .i64 sp, .int .i64 (cell g.G of_ r)] 120))))
                          have hba : Below B wb (wc.alloc (.cells #[.int .i64 m, .int .i64 lr.length, .int .i64 sp, .int .i64 (cell g.G of_ r)] 120)) := (hbS.trans (epc.below.mono hBS)).alloc hBc _
                          have hBa : B ≤ (wc.alloc (.cells #[.int .i64 m, .int .i64 lr.length, .int .i64 sp, .int .i64 (cell g.G of_ r)] 120)).heap.size := by simp; omega
                          refine wpAnyH_ready (rs := [21]) (by kernel_rfl) (by simp) ?_
                          refine AllReadyH.cons rfl (fun K hK => ?_) AllReadyH.nil
                          refine step_append1z rfl (.tmp 122) (.tmp 138) 84 rfl elemEdge rfl OWa hBa (us := [.int .i64 m, .int .i64 lr.length, .int .i64 sp, .int .i64 (cell g.G of_ r)]) rfl rfl ?_ (by intro u hu; simp at hu; rcases hu with rfl | rfl | rfl | rfl <;> rfl) (by have := hEl.out; omega) (by have := hEl.out; omega) ?_
                          · intro jj u hj
                            match jj, hj with
                            | 0, hj => simp at hj; subst hj; go_simp
                            | 1, hj => simp at hj; subst hj; go_simp
                            | 2, hj => simp at hj; subst hj; go_simp
                            | 3, hj => simp at hj; subst hj; go_simp
                          intro v4 w4 ho4 hb4
                          obtain ⟨ed4, em4, hv4⟩ := ho4.form
                          have hv4' : v4 = .slice ed4 (ER.length + 1) em4 := hv4
                          subst hv4'
                          clear hv4
                          have eb : Ext wT w4 := ⟨ea.below.trans (hb4.mono (by have := hB.out; omega))⟩
                          have tc4 : w4.cell? ⟨bx, 1, none⟩ = some (.slice ed2 ER.length em2) := ho4.cellIn (.tail _ (.head _)) (j := 1) (by omega)
                          have tf4 := ho4.frozenIn (.tail _ (.head _)) 1
                          refine hK.out _ _ ⟨eb, eb.cell tk0, eb.cell tk1, eb.cell hc13, eb.cell hc14'⟩ (fun _ => ?_)
                          clear hK K
                          try simp only [List.getElem_toArray, List.getElem_cons_succ, List.getElem_cons_zero, Act.put, List.setIfInBounds_toArray, List.set_cons_zero, List.set_cons_succ]
                          have hbxB := ((ho4.1 _ (.tail _ (.head _))).lt bx rfl).1
                          have hoS := Own.setIn (A := [_]) ho4 1 (.slice ed4 (ER.length + 1) em4)
                          have hoP := flat_snoc (x := (m : Int) :: [(lr.length : Int), sp, cell g.G of_ r]) hoS rfl rfl
                          have hoQ := Own.push (A := [_, _]) hoP
                          have hbF : Below B wb (w4.setCell ⟨bx, 1, none⟩ (.slice ed4 (ER.length + 1) em4)) := (hba.trans hb4).setCell hbxB _
                          have ef : Ext wT (w4.setCell ⟨bx, 1, none⟩ (.slice ed4 (ER.length + 1) em4)) := ⟨ewT.below.trans (hbF.mono (by have := hB.out; omega))⟩
                          have hoF : Own (w4.setCell ⟨bx, 1, none⟩ (.slice ed4 (ER.length + 1) em4)) B (pxRows bx S.length vd ed4 vm em4 lr1 (ER ++ [(m : Int) :: stpRow g l m r])) := by
                            rw [hstp.out, hat.out]
                            unfold pxRows
                            rw [List.length_append]
                            exact hoQ
                          refine wpAnyH_take (i := 22) (v := .pointer (some ⟨bx, 0, none⟩)) rfl (by kernel_rfl) (by kernel_rfl) (by kernel_rfl) (fun _ _ _ h => h) (Or.inl ⟨by rfl, by intro wx hx; go_simp⟩) (by assumption) ?_
                          try simp only [List.getElem_toArray, List.getElem_cons_succ, List.getElem_cons_zero, Act.put, List.setIfInBounds_toArray, List.set_cons_zero, List.set_cons_succ]
                          refine wpAnyH_take (i := 23) (v := .pointer (some ⟨bx, 1, none⟩)) rfl (by kernel_rfl) (by kernel_rfl) (by kernel_rfl) (fun _ _ _ h => h) (Or.inl ⟨by rfl, by intro wx hx; go_simp⟩) (by assumption) ?_
                          try simp only [List.getElem_toArray, List.getElem_cons_succ, List.getElem_cons_zero, Act.put, List.setIfInBounds_toArray, List.set_cons_zero, List.set_cons_succ]
                          refine wpAnyH_ready (rs := [24]) (by kernel_rfl) (by simp) ?_
                          refine AllReadyH.cons rfl (fun K hK => ?_) AllReadyH.nil
                          go_simp
                          refine hK.out _ _ ⟨ef, ef.cell tk0, ef.cell tk1, ef.cell hc13, ef.cell hc14'⟩ (fun _ => ?_)
                          clear hK K
                          try simp only [List.getElem_toArray, List.getElem_cons_succ, List.getElem_cons_zero, Act.put, List.setIfInBounds_toArray, List.set_cons_zero, List.set_cons_succ]
                          refine wpAnyH_done (by kernel_rfl) ?_ _
                          replace hoF := hid hoF
                          replace hbF := hid hbF
                          clear hoS hoP hoQ ho4 OWa OWS hba hbS
                          go_wp2_with fail
                          go_roundw
                          case rel =>
                            refine ⟨r + 1, by omega, by go_num, ?_⟩
                            unfold PxRow
                            rw [hlr1.out, hER1'.out, hER1.out]
                            exact ⟨hbF.out, _, _, _, _, hoF.out⟩
                          case measure => simp [intOf]; omega
                        · go_simp
                          have ea : Ext wT (wc.alloc (.cells #[.int .i64 m, .int .i64 lr.length, .int .i64 sp, .int .i64 (cell g.G of_ r)] 120)) := Ext.trans ec inferInstance
                          refine hK.out _ _ ⟨ea, ea.cell tk0, ea.cell tk1, ea.cell hc13, ea.cell hc14'⟩ (fun _ => ?_)
                          clear hK K
                          try simp only [List.getElem_toArray, List.getElem_cons_succ, List.getElem_cons_zero, Act.put, List.setIfInBounds_toArray, List.set_cons_zero, List.set_cons_succ]
                          have tgw2 : (wc.alloc (.cells #[.int .i64 m, .int .i64 lr.length, .int .i64 sp, .int .i64 (cell g.G of_ r)] 120)).cell? ⟨bx, 1, none⟩ = some (.slice ed2 ER.length em2) := (inferInstance : Ext wc _).cell tgw
                          refine wpAnyH_ready (rs := [4]) (by kernel_rfl) (by simp) ?_
                          refine AllReadyH.cons rfl (fun K hK => ?_) AllReadyH.nil
                          go_simp
                          refine hK.out _ _ ⟨ea, ea.cell tk0, ea.cell tk1, ea.cell hc13, ea.cell hc14'⟩ (fun _ => ?_)
                          clear hK K
                          try simp only [List.getElem_toArray, List.getElem_cons_succ, List.getElem_cons_zero, Act.put, List.setIfInBounds_toArray, List.set_cons_zero, List.set_cons_succ]
                          have epc : Ext wS wc := Ext.trans (Ext.drew wS wS) hbc
                          have hBc : B ≤ wc.heap.size := Nat.le_trans hBS epc.size
                          have epa : Ext wS (wc.alloc (.cells #[.int .i64 m, .int .i64 lr.length, .int .i64 sp, .int .i64 (cell g.G of_ r)] 120)) := Ext.trans epc inferInstance
                          have OWa := Own.pull (A := [_, _]) (OWS.ext (w' := (wc.alloc (.cells #[.int .i64 m, .int .i64 lr.length, .int .i64 sp, .int .i64 (cell g.G of_ r)] 120))))
                          have hba : Below B wb (wc.alloc (.cells #[.int .i64 m, .int .i64 lr.length, .int .i64 sp, .int .i64 (cell g.G of_ r)] 120)) := (hbS.trans (epc.below.mono hBS)).alloc hBc _
                          have hBa : B ≤ (wc.alloc (.cells #[.int .i64 m, .int .i64 lr.length, .int .i64 sp, .int .i64 (cell g.G of_ r)] 120)).heap.size := by simp; omega
                          refine wpAnyH_ready (rs := [21]) (by kernel_rfl) (by simp) ?_
                          refine AllReadyH.cons rfl (fun K hK => ?_) AllReadyH.nil
                          refine step_append1z rfl (.tmp 122) (.tmp 138) 84 rfl elemEdge rfl OWa hBa (us := [.int .i64 m, .int .i64 lr.length, .int .i64 sp, .int .i64 (cell g.G of_ r)]) rfl rfl ?_ (by intro u hu; simp at hu; rcases hu with rfl | rfl | rfl | rfl <;> rfl) (by have := hEl.out; omega) (by have := hEl.out; omega) ?_
                          · intro jj u hj
                            match jj, hj with
                            | 0, hj => simp at hj; subst hj; go_simp
                            | 1, hj => simp at hj; subst hj; go_simp
                            | 2, hj => simp at hj; subst hj; go_simp
                            | 3, hj => simp at hj; subst hj; go_simp
                          intro v4 w4 ho4 hb4
                          obtain ⟨ed4, em4, hv4⟩ := ho4.form
                          have hv4' : v4 = .slice ed4 (ER.length + 1) em4 := hv4
                          subst hv4'
                          clear hv4
                          have eb : Ext wT w4 := ⟨ea.below.trans (hb4.mono (by have := hB.out; omega))⟩
                          have tc4 : w4.cell? ⟨bx, 1, none⟩ = some (.slice ed2 ER.length em2) := ho4.cellIn (.tail _ (.head _)) (j := 1) (by omega)
                          have tf4 := ho4.frozenIn (.tail _ (.head _)) 1
                          refine hK.out _ _ ⟨eb, eb.cell tk0, eb.cell tk1, eb.cell hc13, eb.cell hc14'⟩ (fun _ => ?_)
                          clear hK K
                          try simp only [List.getElem_toArray, List.getElem_cons_succ, List.getElem_cons_zero, Act.put, List.setIfInBounds_toArray, List.set_cons_zero, List.set_cons_succ]
                          have hbxB := ((ho4.1 _ (.tail _ (.head _))).lt bx rfl).1
                          have hoS := Own.setIn (A := [_]) ho4 1 (.slice ed4 (ER.length + 1) em4)
                          have hoP := flat_snoc (x := (m : Int) :: [(lr.length : Int), sp, cell g.G of_ r]) hoS rfl rfl
                          have hoQ := Own.push (A := [_, _]) hoP
                          have hbF : Below B wb (w4.setCell ⟨bx, 1, none⟩ (.slice ed4 (ER.length + 1) em4)) := (hba.trans hb4).setCell hbxB _
                          have ef : Ext wT (w4.setCell ⟨bx, 1, none⟩ (.slice ed4 (ER.length + 1) em4)) := ⟨ewT.below.trans (hbF.mono (by have := hB.out; omega))⟩
                          have hoF : Own (w4.setCell ⟨bx, 1, none⟩ (.slice ed4 (ER.length + 1) em4)) B (pxRows bx S.length vd ed4 vm em4 lr1 (ER ++ [(m : Int) :: stpRow g l m r])) := by
                            rw [hstp.out, hat.out]
                            unfold pxRows
                            rw [List.length_append]
                            exact hoQ
                          refine wpAnyH_take (i := 22) (v := .pointer (some ⟨bx, 0, none⟩)) rfl (by kernel_rfl) (by kernel_rfl) (by kernel_rfl) (fun _ _ _ h => h) (Or.inl ⟨by rfl, by intro wx hx; go_simp⟩) (by assumption) ?_
                          try simp only [List.getElem_toArray, List.getElem_cons_succ, List.getElem_cons_zero, Act.put, List.setIfInBounds_toArray, List.set_cons_zero, List.set_cons_succ]
                          refine wpAnyH_take (i := 23) (v := .pointer (some ⟨bx, 1, none⟩)) rfl (by kernel_rfl) (by kernel_rfl) (by kernel_rfl) (fun _ _ _ h => h) (Or.inl ⟨by rfl, by intro wx hx; go_simp⟩) (by assumption) ?_
                          try simp only [List.getElem_toArray, List.getElem_cons_succ, List.getElem_cons_zero, Act.put, List.setIfInBounds_toArray, List.set_cons_zero, List.set_cons_succ]
                          refine wpAnyH_ready (rs := [24]) (by kernel_rfl) (by simp) ?_
                          refine AllReadyH.cons rfl (fun K hK => ?_) AllReadyH.nil
                          go_simp
                          refine hK.out _ _ ⟨ef, ef.cell tk0, ef.cell tk1, ef.cell hc13, ef.cell hc14'⟩ (fun _ => ?_)
                          clear hK K
                          try simp only [List.getElem_toArray, List.getElem_cons_succ, List.getElem_cons_zero, Act.put, List.setIfInBounds_toArray, List.set_cons_zero, List.set_cons_succ]
                          refine wpAnyH_done (by kernel_rfl) ?_ _
                          replace hoF := hid hoF
                          replace hbF := hid hbF
                          clear hoS hoP hoQ ho4 OWa OWS hba hbS
                          go_wp2_with fail
                          go_roundw
                          case rel =>
                            refine ⟨r + 1, by omega, by go_num, ?_⟩
                            unfold PxRow
                            rw [hlr1.out, hER1'.out, hER1.out]
                            exact ⟨hbF.out, _, _, _, _, hoF.out⟩
                          case measure => simp [intOf]; omega
                · have hneg' : decide (ix < 0) = false := by simpa using hneg
                  have hL1 := hid (hsL.out.trans (if_neg hneg))
                  have hat := hid (show tt = ix by rw [hto.out, if_neg hneg])
                  replace hneg := hid hneg
                  have OWS : Own wz B (pxRows bx S.length pd2 ed2 pm2 em2 lr1 ER) := by
                    rw [hL1.out]
                    exact hown2.ext (w' := wz)
                  have hbS := hbz
                  have hBS := hBz
                  have eTS : Ext wT wz := Ext.trans eTi exz
                  have e0z : Ext w0 wz := Ext.trans ei0 exz
                  have tgE : wz.cell? ⟨bx, 1, none⟩ = some (.slice ed2 ER.length em2) := OWS.cellIn (.head _) (j := 1) (by omega)
                  go_upto_region 20 with fail
                  have ed : Ext wT (wz).drew := Ext.trans eTS inferInstance
                  refine wp_region_held_drew (S := fun w' => Ext wT w' ∧ w'.cell? ⟨w.heap.size, 0, none⟩ = some (.slice a1 M.length c1) ∧ w'.cell? ⟨w.heap.size, 1, none⟩ = some (.slice a2 S.length c2) ∧ w'.cell? ⟨b13, o13 + of_, none⟩ = some (.slice (some ⟨b14, o14, none⟩) S.length m13) ∧ w'.cell? ⟨b14, o14 + r, none⟩ = some (.int .i64 (cell g.G of_ r))) (by kernel_rfl) ⟨ed, ed.cell tk0, ed.cell tk1, ed.cell hc13, ed.cell hc14'⟩ (fun hHeld0 => ?_)
                  refine wpAnyH_take (i := 0) (v := .pointer (some ⟨bx, 0, none⟩)) rfl (by kernel_rfl) (by kernel_rfl) (by kernel_rfl) (fun _ _ _ h => h) (Or.inl ⟨by rfl, by intro wx hx; go_simp⟩) (by assumption) ?_
                  try simp only [List.getElem_toArray, List.getElem_cons_zero, Act.put, List.setIfInBounds_toArray, List.set_cons_zero, List.set_cons_succ]
                  refine wpAnyH_take (i := 1) (v := .pointer (some ⟨bx, 0, none⟩)) rfl (by kernel_rfl) (by kernel_rfl) (by kernel_rfl) (fun _ _ _ h => h) (Or.inl ⟨by rfl, by intro wx hx; go_simp⟩) (by assumption) ?_
                  try simp only [List.getElem_toArray, List.getElem_cons_succ, List.getElem_cons_zero, Act.put, List.setIfInBounds_toArray, List.set_cons_zero, List.set_cons_succ]
                  refine wpAnyH_take (i := 2) (v := .pointer (some ⟨bx, 0, none⟩)) rfl (by kernel_rfl) (by kernel_rfl) (by kernel_rfl) (fun _ _ _ h => h) (Or.inl ⟨by rfl, by intro wx hx; go_simp⟩) (by assumption) ?_
                  try simp only [List.getElem_toArray, List.getElem_cons_succ, List.getElem_cons_zero, Act.put, List.setIfInBounds_toArray, List.set_cons_zero, List.set_cons_succ]
                  refine wpAnyH_take (i := 3) (v := .pointer (some ⟨bx, 1, none⟩)) rfl (by kernel_rfl) (by kernel_rfl) (by kernel_rfl) (fun _ _ _ h => h) (Or.inl ⟨by rfl, by intro wx hx; go_simp⟩) (by assumption) ?_
                  try simp only [List.getElem_toArray, List.getElem_cons_succ, List.getElem_cons_zero, Act.put, List.setIfInBounds_toArray, List.set_cons_zero, List.set_cons_succ]
                  refine wpAnyH_take (i := 5) (v := .int .i64 m) rfl (by kernel_rfl) (by kernel_rfl) (by kernel_rfl) (fun _ _ _ h => h) (Or.inl ⟨by rfl, by intro wx hx; go_simp⟩) (by assumption) ?_
                  try simp only [List.getElem_toArray, List.getElem_cons_succ, List.getElem_cons_zero, Act.put, List.setIfInBounds_toArray, List.set_cons_zero, List.set_cons_succ]
                  refine wpAnyH_take (i := 6) (v := .int .i64 ix) rfl (by kernel_rfl) (by kernel_rfl) (by kernel_rfl) (fun _ _ _ h => h) (Or.inl ⟨by rfl, by intro wx hx; go_simp⟩) (by assumption) ?_
                  try simp only [List.getElem_toArray, List.getElem_cons_succ, List.getElem_cons_zero, Act.put, List.setIfInBounds_toArray, List.set_cons_zero, List.set_cons_succ]
                  refine wpAnyH_take (i := 7) (v := .agg #[.slice a1 M.length c1, .slice a2 S.length c2]) rfl (by kernel_rfl) (by kernel_rfl) (by kernel_rfl) (fun _ _ _ h => h) (Or.inl ⟨by rfl, by intro wx hx; obtain ⟨_, _, _, _, _⟩ := hx; go_simp⟩) (by assumption) ?_
                  try simp only [List.getElem_toArray, List.getElem_cons_succ, List.getElem_cons_zero, Act.put, List.setIfInBounds_toArray, List.set_cons_zero, List.set_cons_succ]
                  refine wpAnyH_take (i := 8) (v := .int .i64 st) rfl (by kernel_rfl) (by kernel_rfl) (by kernel_rfl) (fun _ _ _ h => h) (Or.inl ⟨by rfl, by intro wx hx; go_simp⟩) (by assumption) ?_
                  try simp only [List.getElem_toArray, List.getElem_cons_succ, List.getElem_cons_zero, Act.put, List.setIfInBounds_toArray, List.set_cons_zero, List.set_cons_succ]
                  refine wpAnyH_take (i := 9) (v := .int .i64 a) rfl (by kernel_rfl) (by kernel_rfl) (by kernel_rfl) (fun _ _ _ h => h) (Or.inl ⟨by rfl, by intro wx hx; go_simp⟩) (by assumption) ?_
                  try simp only [List.getElem_toArray, List.getElem_cons_succ, List.getElem_cons_zero, Act.put, List.setIfInBounds_toArray, List.set_cons_zero, List.set_cons_succ]
                  refine wpAnyH_take (i := 10) (v := .int .i64 r) rfl (by kernel_rfl) (by kernel_rfl) (by kernel_rfl) (fun _ _ _ h => h) (Or.inl ⟨by rfl, by intro wx hx; go_simp⟩) (by assumption) ?_
                  try simp only [List.getElem_toArray, List.getElem_cons_succ, List.getElem_cons_zero, Act.put, List.setIfInBounds_toArray, List.set_cons_zero, List.set_cons_succ]
                  refine wpAnyH_take (i := 12) (v := .slice (some ⟨b13, o13, none⟩) g.G.length gm) rfl (by kernel_rfl) (by kernel_rfl) (by kernel_rfl) (fun _ _ _ h => h) (Or.inl ⟨by rfl, by intro wx hx; go_simp⟩) (by assumption) ?_
                  try simp only [List.getElem_toArray, List.getElem_cons_succ, List.getElem_cons_zero, Act.put, List.setIfInBounds_toArray, List.set_cons_zero, List.set_cons_succ]
                  refine wpAnyH_take (i := 13) (v := .int .i64 of_) rfl (by kernel_rfl) (by kernel_rfl) (by kernel_rfl) (fun _ _ _ h => h) (Or.inl ⟨by rfl, by intro wx hx; go_simp⟩) (by assumption) ?_
                  try simp only [List.getElem_toArray, List.getElem_cons_succ, List.getElem_cons_zero, Act.put, List.setIfInBounds_toArray, List.set_cons_zero, List.set_cons_succ]
                  refine wpAnyH_take (i := 14) (v := .pointer (some ⟨b13, o13 + of_, none⟩)) rfl (by kernel_rfl) (by kernel_rfl) (by kernel_rfl) (fun _ _ _ h => h) (Or.inl ⟨by rfl, by intro wx hx; go_simp⟩) (by assumption) ?_
                  try simp only [List.getElem_toArray, List.getElem_cons_succ, List.getElem_cons_zero, Act.put, List.setIfInBounds_toArray, List.set_cons_zero, List.set_cons_succ]
                  refine wpAnyH_take (i := 15) (v := .slice (some ⟨b14, o14, none⟩) S.length m13) rfl (by kernel_rfl) (by kernel_rfl) (by kernel_rfl) (fun _ _ _ h => h) (Or.inl ⟨by rfl, by intro wx hx; obtain ⟨_, _, _, _, _⟩ := hx; go_simp⟩) (by assumption) ?_
                  try simp only [List.getElem_toArray, List.getElem_cons_succ, List.getElem_cons_zero, Act.put, List.setIfInBounds_toArray, List.set_cons_zero, List.set_cons_succ]
                  refine wpAnyH_take (i := 16) (v := .int .i64 r) rfl (by kernel_rfl) (by kernel_rfl) (by kernel_rfl) (fun _ _ _ h => h) (Or.inl ⟨by rfl, by intro wx hx; go_simp⟩) (by assumption) ?_
                  try simp only [List.getElem_toArray, List.getElem_cons_succ, List.getElem_cons_zero, Act.put, List.setIfInBounds_toArray, List.set_cons_zero, List.set_cons_succ]
                  refine wpAnyH_take (i := 17) (v := .pointer (some ⟨b14, o14 + r, none⟩)) rfl (by kernel_rfl) (by kernel_rfl) (by kernel_rfl) (fun _ _ _ h => h) (Or.inl ⟨by rfl, by intro wx hx; go_simp⟩) (by assumption) ?_
                  try simp only [List.getElem_toArray, List.getElem_cons_succ, List.getElem_cons_zero, Act.put, List.setIfInBounds_toArray, List.set_cons_zero, List.set_cons_succ]
                  refine wpAnyH_take (i := 18) (v := .int .i64 (cell g.G of_ r)) rfl (by kernel_rfl) (by kernel_rfl) (by kernel_rfl) (fun _ _ _ h => h) (Or.inl ⟨by rfl, by intro wx hx; obtain ⟨_, _, _, _, _⟩ := hx; go_simp⟩) (by assumption) ?_
                  try simp only [List.getElem_toArray, List.getElem_cons_succ, List.getElem_cons_zero, Act.put, List.setIfInBounds_toArray, List.set_cons_zero, List.set_cons_succ]
                  refine wpAnyH_ready (rs := [4, 11]) (by kernel_rfl) (by simp) ?_
                  refine AllReadyH.cons rfl (fun K hK => ?_) (AllReadyH.cons rfl (fun K hK => ?_) AllReadyH.nil)
                  · go_simp
                    refine hK.out _ _ hHeld0 (fun _ => ?_)
                    clear hK K
                    try simp only [List.getElem_toArray, List.getElem_cons_succ, List.getElem_cons_zero, Act.put, List.setIfInBounds_toArray, List.set_cons_zero, List.set_cons_succ]
                    refine wpAnyH_ready (rs := [11]) (by kernel_rfl) (by simp) ?_
                    refine AllReadyH.cons rfl (fun K hK => ?_) AllReadyH.nil
                    go_simp
                    go_at_call 47
                    refine (cost_any (s := a) (w0 := wz) (hM'.ext (w' := wz)) (hS'.ext (w' := wz)) hpr.out hcst.out.1.1 hcst.out.1.2 hcst.out.2.1.1 hcst.out.2.1.2 hcst.out.2.2.1 hcst.out.2.2.2).mono ?_
                    rw [hspd.out]
                    rintro e wc ⟨rfl, hbc⟩
                    go_wp2_with fail
                    have ec : Ext wT wc := Ext.trans ed hbc
                    refine hK.out _ _ ⟨ec, ec.cell tk0, ec.cell tk1, ec.cell hc13, ec.cell hc14'⟩ (fun _ => ?_)
                    clear hK K
                    try simp only [List.getElem_toArray, List.getElem_cons_succ, List.getElem_cons_zero, Act.put, List.setIfInBounds_toArray, List.set_cons_zero, List.set_cons_succ]
                    refine wpAnyH_take (i := 19) (v := .agg #[.int .i64 m, .int .i64 ix, .int .i64 sp, .int .i64 (cell g.G of_ r)]) rfl (by kernel_rfl) (by kernel_rfl) (by kernel_rfl) (fun _ _ _ h => h) (Or.inl ⟨by rfl, by intro wx hx; go_simp⟩) (by assumption) ?_
                    try simp only [List.getElem_toArray, List.getElem_cons_succ, List.getElem_cons_zero, Act.put, List.setIfInBounds_toArray, List.set_cons_zero, List.set_cons_succ]
                    refine wpAnyH_ready (rs := [20]) (by kernel_rfl) (by simp) ?_
                    refine AllReadyH.cons rfl (fun K hK => ?_) AllReadyH.nil
                    go_simp
                    have ea : Ext wT (wc.alloc (.cells #[.int .i64 m, .int .i64 ix, .int .i64 sp, .int .i64 (cell g.G of_ r)] 120)) := Ext.trans ec inferInstance
                    refine hK.out _ _ ⟨ea, ea.cell tk0, ea.cell tk1, ea.cell hc13, ea.cell hc14'⟩ (fun _ => ?_)
                    clear hK K
                    try simp only [List.getElem_toArray, List.getElem_cons_succ, List.getElem_cons_zero, Act.put, List.setIfInBounds_toArray, List.set_cons_zero, List.set_cons_succ]
                    have epc : Ext wz wc := Ext.trans (Ext.drew wz wz) hbc
                    have hBc : B ≤ wc.heap.size := Nat.le_trans hBS epc.size
                    have epa : Ext wz (wc.alloc (.cells #[.int .i64 m, .int .i64 ix, .int .i64 sp, .int .i64 (cell g.G of_ r)] 120)) := Ext.trans epc inferInstance
                    have OWa := Own.pull (A := [_, _]) (OWS.ext (w' := (wc.alloc (.cells #[.int .i64 m, .int .i64 ix, .int .i64 sp, .int .i64 (cell g.G of_ r)] 120))))
                    have hba : Below B wb (wc.alloc (.cells #[.int .i64 m, .int .i64 ix, .int .i64 sp, .int .i64 (cell g.G of_ r)] 120)) := (hbS.trans (epc.below.mono hBS)).alloc hBc _
                    have hBa : B ≤ (wc.alloc (.cells #[.int .i64 m, .int .i64 ix, .int .i64 sp, .int .i64 (cell g.G of_ r)] 120)).heap.size := by simp; omega
                    refine wpAnyH_ready (rs := [21]) (by kernel_rfl) (by simp) ?_
                    refine AllReadyH.cons rfl (fun K hK => ?_) AllReadyH.nil
                    refine step_append1z rfl (.tmp 122) (.tmp 138) 84 rfl elemEdge rfl OWa hBa (us := [.int .i64 m, .int .i64 ix, .int .i64 sp, .int .i64 (cell g.G of_ r)]) rfl rfl ?_ (by intro u hu; simp at hu; rcases hu with rfl | rfl | rfl | rfl <;> rfl) (by have := hEl.out; omega) (by have := hEl.out; omega) ?_
                    · intro jj u hj
                      match jj, hj with
                      | 0, hj => simp at hj; subst hj; go_simp
                      | 1, hj => simp at hj; subst hj; go_simp
                      | 2, hj => simp at hj; subst hj; go_simp
                      | 3, hj => simp at hj; subst hj; go_simp
                    intro v4 w4 ho4 hb4
                    obtain ⟨ed4, em4, hv4⟩ := ho4.form
                    have hv4' : v4 = .slice ed4 (ER.length + 1) em4 := hv4
                    subst hv4'
                    clear hv4
                    have eb : Ext wT w4 := ⟨ea.below.trans (hb4.mono (by have := hB.out; omega))⟩
                    have tc4 : w4.cell? ⟨bx, 1, none⟩ = some (.slice ed2 ER.length em2) := ho4.cellIn (.tail _ (.head _)) (j := 1) (by omega)
                    have tf4 := ho4.frozenIn (.tail _ (.head _)) 1
                    refine hK.out _ _ ⟨eb, eb.cell tk0, eb.cell tk1, eb.cell hc13, eb.cell hc14'⟩ (fun _ => ?_)
                    clear hK K
                    try simp only [List.getElem_toArray, List.getElem_cons_succ, List.getElem_cons_zero, Act.put, List.setIfInBounds_toArray, List.set_cons_zero, List.set_cons_succ]
                    have hbxB := ((ho4.1 _ (.tail _ (.head _))).lt bx rfl).1
                    have hoS := Own.setIn (A := [_]) ho4 1 (.slice ed4 (ER.length + 1) em4)
                    have hoP := flat_snoc (x := (m : Int) :: [(ix : Int), sp, cell g.G of_ r]) hoS rfl rfl
                    have hoQ := Own.push (A := [_, _]) hoP
                    have hbF : Below B wb (w4.setCell ⟨bx, 1, none⟩ (.slice ed4 (ER.length + 1) em4)) := (hba.trans hb4).setCell hbxB _
                    have ef : Ext wT (w4.setCell ⟨bx, 1, none⟩ (.slice ed4 (ER.length + 1) em4)) := ⟨ewT.below.trans (hbF.mono (by have := hB.out; omega))⟩
                    have hoF : Own (w4.setCell ⟨bx, 1, none⟩ (.slice ed4 (ER.length + 1) em4)) B (pxRows bx S.length pd2 ed4 pm2 em4 lr1 (ER ++ [(m : Int) :: stpRow g l m r])) := by
                      rw [hstp.out, hat.out]
                      unfold pxRows
                      rw [List.length_append]
                      exact hoQ
                    refine wpAnyH_take (i := 22) (v := .pointer (some ⟨bx, 0, none⟩)) rfl (by kernel_rfl) (by kernel_rfl) (by kernel_rfl) (fun _ _ _ h => h) (Or.inl ⟨by rfl, by intro wx hx; go_simp⟩) (by assumption) ?_
                    try simp only [List.getElem_toArray, List.getElem_cons_succ, List.getElem_cons_zero, Act.put, List.setIfInBounds_toArray, List.set_cons_zero, List.set_cons_succ]
                    refine wpAnyH_take (i := 23) (v := .pointer (some ⟨bx, 1, none⟩)) rfl (by kernel_rfl) (by kernel_rfl) (by kernel_rfl) (fun _ _ _ h => h) (Or.inl ⟨by rfl, by intro wx hx; go_simp⟩) (by assumption) ?_
                    try simp only [List.getElem_toArray, List.getElem_cons_succ, List.getElem_cons_zero, Act.put, List.setIfInBounds_toArray, List.set_cons_zero, List.set_cons_succ]
                    refine wpAnyH_ready (rs := [24]) (by kernel_rfl) (by simp) ?_
                    refine AllReadyH.cons rfl (fun K hK => ?_) AllReadyH.nil
                    go_simp
                    refine hK.out _ _ ⟨ef, ef.cell tk0, ef.cell tk1, ef.cell hc13, ef.cell hc14'⟩ (fun _ => ?_)
                    clear hK K
                    try simp only [List.getElem_toArray, List.getElem_cons_succ, List.getElem_cons_zero, Act.put, List.setIfInBounds_toArray, List.set_cons_zero, List.set_cons_succ]
                    refine wpAnyH_done (by kernel_rfl) ?_ _
                    replace hoF := hid hoF
                    replace hbF := hid hbF
                    clear hoS hoP hoQ ho4 OWa OWS hba hbS
                    go_wp2_with fail
                    go_roundw
                    case rel =>
                      refine ⟨r + 1, by omega, by go_num, ?_⟩
                      unfold PxRow
                      rw [hlr1.out, hER1'.out, hER1.out]
                      exact ⟨hbF.out, _, _, _, _, hoF.out⟩
                    case measure => simp [intOf]; omega
                  · go_simp
                    go_at_call 47
                    refine (cost_any (s := a) (w0 := wz) (hM'.ext (w' := wz)) (hS'.ext (w' := wz)) hpr.out hcst.out.1.1 hcst.out.1.2 hcst.out.2.1.1 hcst.out.2.1.2 hcst.out.2.2.1 hcst.out.2.2.2).mono ?_
                    rw [hspd.out]
                    rintro e wc ⟨rfl, hbc⟩
                    go_wp2_with fail
                    have ec : Ext wT wc := Ext.trans ed hbc
                    refine hK.out _ _ ⟨ec, ec.cell tk0, ec.cell tk1, ec.cell hc13, ec.cell hc14'⟩ (fun _ => ?_)
                    clear hK K
                    try simp only [List.getElem_toArray, List.getElem_cons_succ, List.getElem_cons_zero, Act.put, List.setIfInBounds_toArray, List.set_cons_zero, List.set_cons_succ]
                    refine wpAnyH_take (i := 19) (v := .agg #[.int .i64 m, .int .i64 ix, .int .i64 sp, .int .i64 (cell g.G of_ r)]) rfl (by kernel_rfl) (by kernel_rfl) (by kernel_rfl) (fun _ _ _ h => h) (Or.inl ⟨by rfl, by intro wx hx; go_simp⟩) (by assumption) ?_
                    try simp only [List.getElem_toArray, List.getElem_cons_succ, List.getElem_cons_zero, Act.put, List.setIfInBounds_toArray, List.set_cons_zero, List.set_cons_succ]
                    have tgw : wc.cell? ⟨bx, 1, none⟩ = some (.slice ed2 ER.length em2) := (Ext.trans (Ext.drew wz wz) hbc).cell tgE
                    refine wpAnyH_ready (rs := [4, 20]) (by kernel_rfl) (by simp) ?_
                    refine AllReadyH.cons rfl (fun K hK => ?_) (AllReadyH.cons rfl (fun K hK => ?_) AllReadyH.nil)
                    · go_simp
                      refine hK.out _ _ ⟨ec, ec.cell tk0, ec.cell tk1, ec.cell hc13, ec.cell hc14'⟩ (fun _ => ?_)
                      clear hK K
                      try simp only [List.getElem_toArray, List.getElem_cons_succ, List.getElem_cons_zero, Act.put, List.setIfInBounds_toArray, List.set_cons_zero, List.set_cons_succ]
                      refine wpAnyH_ready (rs := [20]) (by kernel_rfl) (by simp) ?_
                      refine AllReadyH.cons rfl (fun K hK => ?_) AllReadyH.nil
                      go_simp
                      have ea : Ext wT (wc.alloc (.cells #[.int .i64 m, .int .i64 ix, .int .i64 sp, .int .i64 (cell g.G of_ r)] 120)) := Ext.trans ec inferInstance
                      refine hK.out _ _ ⟨ea, ea.cell tk0, ea.cell tk1, ea.cell hc13, ea.cell hc14'⟩ (fun _ => ?_)
                      clear hK K
                      try simp only [List.getElem_toArray, List.getElem_cons_succ, List.getElem_cons_zero, Act.put, List.setIfInBounds_toArray, List.set_cons_zero, List.set_cons_succ]
                      have epc : Ext wz wc := Ext.trans (Ext.drew wz wz) hbc
                      have hBc : B ≤ wc.heap.size := Nat.le_trans hBS epc.size
                      have epa : Ext wz (wc.alloc (.cells #[.int .i64 m, .int .i64 ix, .int .i64 sp, .int .i64 (cell g.G of_ r)] 120)) := Ext.trans epc inferInstance
                      have OWa := Own.pull (A := [_, _]) (OWS.ext (w' := (wc.alloc (.cells #[.int .i64 m, .int .i64 ix, .int .i64 sp, .int .i64 (cell g.G of_ r)] 120))))
                      have hba : Below B wb (wc.alloc (.cells #[.int .i64 m, .int .i64 ix, .int .i64 sp, .int .i64 (cell g.G of_ r)] 120)) := (hbS.trans (epc.below.mono hBS)).alloc hBc _
                      have hBa : B ≤ (wc.alloc (.cells #[.int .i64 m, .int .i64 ix, .int .i64 sp, .int .i64 (cell g.G of_ r)] 120)).heap.size := by simp; omega
                      refine wpAnyH_ready (rs := [21]) (by kernel_rfl) (by simp) ?_
                      refine AllReadyH.cons rfl (fun K hK => ?_) AllReadyH.nil
                      refine step_append1z rfl (.tmp 122) (.tmp 138) 84 rfl elemEdge rfl OWa hBa (us := [.int .i64 m, .int .i64 ix, .int .i64 sp, .int .i64 (cell g.G of_ r)]) rfl rfl ?_ (by intro u hu; simp at hu; rcases hu with rfl | rfl | rfl | rfl <;> rfl) (by have := hEl.out; omega) (by have := hEl.out; omega) ?_
                      · intro jj u hj
                        match jj, hj with
                        | 0, hj => simp at hj; subst hj; go_simp
                        | 1, hj => simp at hj; subst hj; go_simp
                        | 2, hj => simp at hj; subst hj; go_simp
                        | 3, hj => simp at hj; subst hj; go_simp
                      intro v4 w4 ho4 hb4
                      obtain ⟨ed4, em4, hv4⟩ := ho4.form
                      have hv4' : v4 = .slice ed4 (ER.length + 1) em4 := hv4
                      subst hv4'
                      clear hv4
                      have eb : Ext wT w4 := ⟨ea.below.trans (hb4.mono (by have := hB.out; omega))⟩
                      have tc4 : w4.cell? ⟨bx, 1, none⟩ = some (.slice ed2 ER.length em2) := ho4.cellIn (.tail _ (.head _)) (j := 1) (by omega)
                      have tf4 := ho4.frozenIn (.tail _ (.head _)) 1
                      refine hK.out _ _ ⟨eb, eb.cell tk0, eb.cell tk1, eb.cell hc13, eb.cell hc14'⟩ (fun _ => ?_)
                      clear hK K
                      try simp only [List.getElem_toArray, List.getElem_cons_succ, List.getElem_cons_zero, Act.put, List.setIfInBounds_toArray, List.set_cons_zero, List.set_cons_succ]
                      have hbxB := ((ho4.1 _ (.tail _ (.head _))).lt bx rfl).1
                      have hoS := Own.setIn (A := [_]) ho4 1 (.slice ed4 (ER.length + 1) em4)
                      have hoP := flat_snoc (x := (m : Int) :: [(ix : Int), sp, cell g.G of_ r]) hoS rfl rfl
                      have hoQ := Own.push (A := [_, _]) hoP
                      have hbF : Below B wb (w4.setCell ⟨bx, 1, none⟩ (.slice ed4 (ER.length + 1) em4)) := (hba.trans hb4).setCell hbxB _
                      have ef : Ext wT (w4.setCell ⟨bx, 1, none⟩ (.slice ed4 (ER.length + 1) em4)) := ⟨ewT.below.trans (hbF.mono (by have := hB.out; omega))⟩
                      have hoF : Own (w4.setCell ⟨bx, 1, none⟩ (.slice ed4 (ER.length + 1) em4)) B (pxRows bx S.length pd2 ed4 pm2 em4 lr1 (ER ++ [(m : Int) :: stpRow g l m r])) := by
                        rw [hstp.out, hat.out]
                        unfold pxRows
                        rw [List.length_append]
                        exact hoQ
                      refine wpAnyH_take (i := 22) (v := .pointer (some ⟨bx, 0, none⟩)) rfl (by kernel_rfl) (by kernel_rfl) (by kernel_rfl) (fun _ _ _ h => h) (Or.inl ⟨by rfl, by intro wx hx; go_simp⟩) (by assumption) ?_
                      try simp only [List.getElem_toArray, List.getElem_cons_succ, List.getElem_cons_zero, Act.put, List.setIfInBounds_toArray, List.set_cons_zero, List.set_cons_succ]
                      refine wpAnyH_take (i := 23) (v := .pointer (some ⟨bx, 1, none⟩)) rfl (by kernel_rfl) (by kernel_rfl) (by kernel_rfl) (fun _ _ _ h => h) (Or.inl ⟨by rfl, by intro wx hx; go_simp⟩) (by assumption) ?_
                      try simp only [List.getElem_toArray, List.getElem_cons_succ, List.getElem_cons_zero, Act.put, List.setIfInBounds_toArray, List.set_cons_zero, List.set_cons_succ]
                      refine wpAnyH_ready (rs := [24]) (by kernel_rfl) (by simp) ?_
                      refine AllReadyH.cons rfl (fun K hK => ?_) AllReadyH.nil
                      go_simp
                      refine hK.out _ _ ⟨ef, ef.cell tk0, ef.cell tk1, ef.cell hc13, ef.cell hc14'⟩ (fun _ => ?_)
                      clear hK K
                      try simp only [List.getElem_toArray, List.getElem_cons_succ, List.getElem_cons_zero, Act.put, List.setIfInBounds_toArray, List.set_cons_zero, List.set_cons_succ]
                      refine wpAnyH_done (by kernel_rfl) ?_ _
                      replace hoF := hid hoF
                      replace hbF := hid hbF
                      clear hoS hoP hoQ ho4 OWa OWS hba hbS
                      go_wp2_with fail
                      go_roundw
                      case rel =>
                        refine ⟨r + 1, by omega, by go_num, ?_⟩
                        unfold PxRow
                        rw [hlr1.out, hER1'.out, hER1.out]
                        exact ⟨hbF.out, _, _, _, _, hoF.out⟩
                      case measure => simp [intOf]; omega
                    · go_simp
                      have ea : Ext wT (wc.alloc (.cells #[.int .i64 m, .int .i64 ix, .int .i64 sp, .int .i64 (cell g.G of_ r)] 120)) := Ext.trans ec inferInstance
                      refine hK.out _ _ ⟨ea, ea.cell tk0, ea.cell tk1, ea.cell hc13, ea.cell hc14'⟩ (fun _ => ?_)
                      clear hK K
                      try simp only [List.getElem_toArray, List.getElem_cons_succ, List.getElem_cons_zero, Act.put, List.setIfInBounds_toArray, List.set_cons_zero, List.set_cons_succ]
                      have tgw2 : (wc.alloc (.cells #[.int .i64 m, .int .i64 ix, .int .i64 sp, .int .i64 (cell g.G of_ r)] 120)).cell? ⟨bx, 1, none⟩ = some (.slice ed2 ER.length em2) := (inferInstance : Ext wc _).cell tgw
                      refine wpAnyH_ready (rs := [4]) (by kernel_rfl) (by simp) ?_
                      refine AllReadyH.cons rfl (fun K hK => ?_) AllReadyH.nil
                      go_simp
                      refine hK.out _ _ ⟨ea, ea.cell tk0, ea.cell tk1, ea.cell hc13, ea.cell hc14'⟩ (fun _ => ?_)
                      clear hK K
                      try simp only [List.getElem_toArray, List.getElem_cons_succ, List.getElem_cons_zero, Act.put, List.setIfInBounds_toArray, List.set_cons_zero, List.set_cons_succ]
                      have epc : Ext wz wc := Ext.trans (Ext.drew wz wz) hbc
                      have hBc : B ≤ wc.heap.size := Nat.le_trans hBS epc.size
                      have epa : Ext wz (wc.alloc (.cells #[.int .i64 m, .int .i64 ix, .int .i64 sp, .int .i64 (cell g.G of_ r)] 120)) := Ext.trans epc inferInstance
                      have OWa := Own.pull (A := [_, _]) (OWS.ext (w' := (wc.alloc (.cells #[.int .i64 m, .int .i64 ix, .int .i64 sp, .int .i64 (cell g.G of_ r)] 120))))
                      have hba : Below B wb (wc.alloc (.cells #[.int .i64 m, .int .i64 ix, .int .i64 sp, .int .i64 (cell g.G of_ r)] 120)) := (hbS.trans (epc.below.mono hBS)).alloc hBc _
                      have hBa : B ≤ (wc.alloc (.cells #[.int .i64 m, .int .i64 ix, .int .i64 sp, .int .i64 (cell g.G of_ r)] 120)).heap.size := by simp; omega
                      refine wpAnyH_ready (rs := [21]) (by kernel_rfl) (by simp) ?_
                      refine AllReadyH.cons rfl (fun K hK => ?_) AllReadyH.nil
                      refine step_append1z rfl (.tmp 122) (.tmp 138) 84 rfl elemEdge rfl OWa hBa (us := [.int .i64 m, .int .i64 ix, .int .i64 sp, .int .i64 (cell g.G of_ r)]) rfl rfl ?_ (by intro u hu; simp at hu; rcases hu with rfl | rfl | rfl | rfl <;> rfl) (by have := hEl.out; omega) (by have := hEl.out; omega) ?_
                      · intro jj u hj
                        match jj, hj with
                        | 0, hj => simp at hj; subst hj; go_simp
                        | 1, hj => simp at hj; subst hj; go_simp
                        | 2, hj => simp at hj; subst hj; go_simp
                        | 3, hj => simp at hj; subst hj; go_simp
                      intro v4 w4 ho4 hb4
                      obtain ⟨ed4, em4, hv4⟩ := ho4.form
                      have hv4' : v4 = .slice ed4 (ER.length + 1) em4 := hv4
                      subst hv4'
                      clear hv4
                      have eb : Ext wT w4 := ⟨ea.below.trans (hb4.mono (by have := hB.out; omega))⟩
                      have tc4 : w4.cell? ⟨bx, 1, none⟩ = some (.slice ed2 ER.length em2) := ho4.cellIn (.tail _ (.head _)) (j := 1) (by omega)
                      have tf4 := ho4.frozenIn (.tail _ (.head _)) 1
                      refine hK.out _ _ ⟨eb, eb.cell tk0, eb.cell tk1, eb.cell hc13, eb.cell hc14'⟩ (fun _ => ?_)
                      clear hK K
                      try simp only [List.getElem_toArray, List.getElem_cons_succ, List.getElem_cons_zero, Act.put, List.setIfInBounds_toArray, List.set_cons_zero, List.set_cons_succ]
                      have hbxB := ((ho4.1 _ (.tail _ (.head _))).lt bx rfl).1
                      have hoS := Own.setIn (A := [_]) ho4 1 (.slice ed4 (ER.length + 1) em4)
                      have hoP := flat_snoc (x := (m : Int) :: [(ix : Int), sp, cell g.G of_ r]) hoS rfl rfl
                      have hoQ := Own.push (A := [_, _]) hoP
                      have hbF : Below B wb (w4.setCell ⟨bx, 1, none⟩ (.slice ed4 (ER.length + 1) em4)) := (hba.trans hb4).setCell hbxB _
                      have ef : Ext wT (w4.setCell ⟨bx, 1, none⟩ (.slice ed4 (ER.length + 1) em4)) := ⟨ewT.below.trans (hbF.mono (by have := hB.out; omega))⟩
                      have hoF : Own (w4.setCell ⟨bx, 1, none⟩ (.slice ed4 (ER.length + 1) em4)) B (pxRows bx S.length pd2 ed4 pm2 em4 lr1 (ER ++ [(m : Int) :: stpRow g l m r])) := by
                        rw [hstp.out, hat.out]
                        unfold pxRows
                        rw [List.length_append]
                        exact hoQ
                      refine wpAnyH_take (i := 22) (v := .pointer (some ⟨bx, 0, none⟩)) rfl (by kernel_rfl) (by kernel_rfl) (by kernel_rfl) (fun _ _ _ h => h) (Or.inl ⟨by rfl, by intro wx hx; go_simp⟩) (by assumption) ?_
                      try simp only [List.getElem_toArray, List.getElem_cons_succ, List.getElem_cons_zero, Act.put, List.setIfInBounds_toArray, List.set_cons_zero, List.set_cons_succ]
                      refine wpAnyH_take (i := 23) (v := .pointer (some ⟨bx, 1, none⟩)) rfl (by kernel_rfl) (by kernel_rfl) (by kernel_rfl) (fun _ _ _ h => h) (Or.inl ⟨by rfl, by intro wx hx; go_simp⟩) (by assumption) ?_
                      try simp only [List.getElem_toArray, List.getElem_cons_succ, List.getElem_cons_zero, Act.put, List.setIfInBounds_toArray, List.set_cons_zero, List.set_cons_succ]
                      refine wpAnyH_ready (rs := [24]) (by kernel_rfl) (by simp) ?_
                      refine AllReadyH.cons rfl (fun K hK => ?_) AllReadyH.nil
                      go_simp
                      refine hK.out _ _ ⟨ef, ef.cell tk0, ef.cell tk1, ef.cell hc13, ef.cell hc14'⟩ (fun _ => ?_)
                      clear hK K
                      try simp only [List.getElem_toArray, List.getElem_cons_succ, List.getElem_cons_zero, Act.put, List.setIfInBounds_toArray, List.set_cons_zero, List.set_cons_succ]
                      refine wpAnyH_done (by kernel_rfl) ?_ _
                      replace hoF := hid hoF
                      replace hbF := hid hbF
                      clear hoS hoP hoQ ho4 OWa OWS hba hbS
                      go_wp2_with fail
                      go_roundw
                      case rel =>
                        refine ⟨r + 1, by omega, by go_num, ?_⟩
                        unfold PxRow
                        rw [hlr1.out, hER1'.out, hER1.out]
                        exact ⟨hbF.out, _, _, _, _, hoF.out⟩
                      case measure => simp [intOf]; omega
              · have hrS : r = S.length := by omega
                subst hrS
                rw [← hnext.out] at hown2 tg0
                rw [← hnextE.out] at hown2
                have hln6 : lnext.length ≤ 604 := by
                  have h1 := (rowPr_len g l m S.length).2
                  rw [← hnext.out] at h1
                  have := hn.out
                  omega
                have hokn := hid (rowPr_ok hgk.out hok.out hlt (r := S.length) (by rw [hSl.out]; exact Nat.le_refl _))
                have hmn := hid (show m + 1 ≤ lnext.length by
                  have h1 := (rowPr_len g l m S.length).1
                  rw [← hnext.out] at h1
                  omega)
                rw [← hnext.out] at hokn
                by_cases hbig : 600 < lnext.length
                · have hend := hid (show prEnd g s = none by
                    rw [← hgo.out, show 700 - m = (699 - m) + 1 by omega]
                    exact hbigG.out hbig)
                  have hr := hid (prB_pr (M := M) (S := S) (N := N) (s := (s : Int)) (n := n) (by rw [Int.toNat_natCast]; exact hoff.out) (by rw [Int.toNat_natCast, ← hg.out]; exact hend.out))
                  have hbig' : decide ((600 : Int) < (lnext.length : Int)) = true := by simp; omega
                  go_wp2_with fail
                  go_ret2
                  exact ⟨.inl ⟨hr.out, rfl⟩, ei⟩
                · have hgo2 := hid (show prGo g s (700 - (m + 1)) (m + 1) = prEnd g s by
                    rw [← hgo.out, show 700 - m = (699 - m) + 1 by omega, hmoreG.out hbig, show 700 - (m + 1) = 699 - m by omega])
                  have hbig' : decide ((600 : Int) < (lnext.length : Int)) = false := by simp; omega
                  go_wp2_with fail
                  go_roundw
                  case rel =>
                    refine ⟨m + 1, by go_num, ?_⟩
                    unfold PxInv
                    rw [hln.out, hle.out]
                    exact ⟨by omega, by omega, hokn.out, hgo2.out, hmn.out, hb2, _, _, _, _, hown2⟩
                  case measure => simp [intOf]; omega
          · have hend := hid (show prEnd g s = some m by
              rw [← hgo.out, show 700 - m = (699 - m) + 1 by omega]
              exact prGo_done hlt)
            go_wp2_with fail
            go_ret2
            refine ⟨.inr ⟨n, m, halg.out, hoff.out, by rw [← hg.out]; exact hend.out, bx, pd, ed, pm, em, rfl, ?_⟩, eo⟩
            rw [← hg.out]
            exact hown.mono (by omega)

end Go.Proofs.Ytobfehekjapnhaa
