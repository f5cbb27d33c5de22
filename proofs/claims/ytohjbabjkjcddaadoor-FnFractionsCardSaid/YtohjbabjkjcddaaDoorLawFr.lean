/- 'laws.FnFractions': for every code the law returns true. -/
import Derived.Test.YtohjbabjkjcddaaDoorFry
import Derived.Deep.Cut
namespace Go.Proofs.YtohjbabjkjcddaaDoor
open Go.RowKit

set_option maxHeartbeats 400000 in
theorem rBig_f {v : Value} {n : Nat} {w : World} (hv : IsBytes w v n) :
    Calls Tryd.prog 4 #[v] w fun e w' => e = .returned (.bool (decide (65536 < n))) ∧ w = w' := by
  obtain ⟨a, c, rfl⟩ := hv.form
  by_cases h : 65536 < n
  · go_enter Tryd.func4, Tryd.ntmps4
    go_wp2
    go_ret
    exact ⟨ret_bool (decide_eq_decide.2 (by omega)), rfl⟩
  · go_enter Tryd.func4, Tryd.ntmps4
    go_wp2
    go_ret
    exact ⟨ret_bool (decide_eq_decide.2 (by omega)), rfl⟩
theorem div_cross {n d n' d' : Int} (h1 : 1 ≤ d) (h2 : 1 ≤ d') (h : n' * d = n * d') : n' / d' = n / d := by
  have e1 : n' / d' = (d * n') / (d * d') := (Int.mul_ediv_mul_of_pos _ _ (by omega)).symm
  have e2 : n / d = (d' * n) / (d' * d) := (Int.mul_ediv_mul_of_pos _ _ (by omega)).symm
  rw [e1, e2, Int.mul_comm d n', h, Int.mul_comm n d', Int.mul_comm d d']
set_option maxHeartbeats 6400000 in
set_option maxRecDepth 100000 in
theorem lawFnFractions_any {v : Value} {nb : Nat} {w : World} (hc : IsBytes w v nb) (ht : Tens w) (he : Errs w) (hm : Most w) :
    Calls Tryd.prog 3 #[v] w fun e w' => e = .returned (.bool true) ∧ Ext w w' := by
  have hc' := hc
  obtain ⟨ac, cc, rfl⟩ := hc.form
  replace ht := hid ht
  replace he := hid he
  replace hm := hid hm
  by_cases hbig : 65536 < nb
  · have hd := hid (decide_eq_true hbig)
    go_enter Tryd.func3, Tryd.ntmps3
    go_wp2_with fail
    refine (rBig_f hc').mono ?_
    rw [hd.out]
    rintro e w1 ⟨rfl, rfl⟩
    go_wp2_with fail
    go_ret
    exact ⟨rfl, Ext.refl _⟩
  · have hd := hid (decide_eq_false hbig)
    go_enter Tryd.func3, Tryd.ntmps3
    go_wp2_with fail
    refine (rBig_f hc').mono ?_
    rw [hd.out]
    rintro e wz ⟨rfl, rfl⟩
    go_wp2_with fail
    refine (drawAF_any (w0 := w) (w := w) hc').mono ?_
    rintro e w1 ⟨a, b, c, d, rfl, e1⟩
    go_upto_region 4 with fail
    obtain ⟨w2, hw2⟩ : ∃ u, u = (w1.alloc (.cells #[.int .i64 a, .int .i64 b] 25)).alloc (.cells #[.int .i64 c, .int .i64 d] 25) := ⟨_, rfl⟩
    have a0 : w2.cell? ⟨w1.heap.size, 0, none⟩ = some (.int .i64 a) := by rw [hw2]; go_simp
    have a1 : w2.cell? ⟨w1.heap.size, 1, none⟩ = some (.int .i64 b) := by rw [hw2]; go_simp
    have b0 : w2.cell? ⟨w1.heap.size + 1, 0, none⟩ = some (.int .i64 c) := by rw [hw2]; go_simp
    have b1 : w2.cell? ⟨w1.heap.size + 1, 1, none⟩ = some (.int .i64 d) := by rw [hw2]; go_simp
    have c2 : Ext w w2 := Ext.trans e1 (by rw [hw2]; infer_instance)
    rw [← hw2]
    replace hw2 := hid hw2
    have hA := fun (u : World) => implAdd_any (a := a) (b := b) (c := c) (d := d) u
    have hB := fun (u : World) => specAdd_any (a := a) (b := b) (c := c) (d := d) u
    obtain ⟨s, hs⟩ : ∃ q, q = afN a b c d (a * d + c * b) (b * d) := ⟨_, rfl⟩
    obtain ⟨t, hst⟩ : ∃ q, q = afD a b c d (a * d + c * b) (b * d) := ⟨_, rfl⟩
    obtain ⟨ok1, hok1⟩ : ∃ q, q = afB a b c d (a * d + c * b) (b * d) := ⟨_, rfl⟩
    rw [← hs, ← hst, ← hok1] at hA hB
    replace hs := hid hs
    replace hst := hid hst
    replace hok1 := hid hok1
    replace hA := hid hA
    replace hB := hid hB
    go_wp2_with fail
    refine (hA.out w2).mono ?_
    rintro e w3 ⟨rfl, e3⟩
    go_upto_region 5 with fail
    have s0 : (w3.alloc (.cells #[.int .i64 s, .int .i64 t] 25)).cell? ⟨w3.heap.size, 0, none⟩ = some (.int .i64 s) := by go_simp
    have s1 : (w3.alloc (.cells #[.int .i64 s, .int .i64 t] 25)).cell? ⟨w3.heap.size, 1, none⟩ = some (.int .i64 t) := by go_simp
    have ew4 : Ext w3 (w3.alloc (.cells #[.int .i64 s, .int .i64 t] 25)) := inferInstance
    generalize w3.alloc (.cells #[.int .i64 s, .int .i64 t] 25) = w4 at *
    have f24 : Ext w2 w4 := Ext.trans e3 ew4
    have a0 := f24.cell a0
    have a1 := f24.cell a1
    have b0 := f24.cell b0
    have b1 := f24.cell b1
    go_wp2_with fail
    refine (hB.out w4).mono ?_
    rintro e w5 ⟨rfl, e5⟩
    go_upto_region 6 with fail
    have t0 : (w5.alloc (.cells #[.int .i64 s, .int .i64 t] 25)).cell? ⟨w5.heap.size, 0, none⟩ = some (.int .i64 s) := by go_simp
    have t1 : (w5.alloc (.cells #[.int .i64 s, .int .i64 t] 25)).cell? ⟨w5.heap.size, 1, none⟩ = some (.int .i64 t) := by go_simp
    have ew6 : Ext w5 (w5.alloc (.cells #[.int .i64 s, .int .i64 t] 25)) := inferInstance
    generalize w5.alloc (.cells #[.int .i64 s, .int .i64 t] 25) = w6 at *
    have f46 : Ext w4 w6 := Ext.trans e5 ew6
    have a0 := f46.cell a0
    have a1 := f46.cell a1
    have b0 := f46.cell b0
    have b1 := f46.cell b1
    have s0 := f46.cell s0
    have s1 := f46.cell s1
    have hA := fun (u : World) => implMul_any (a := a) (b := b) (c := c) (d := d) u
    have hB := fun (u : World) => specMul_any (a := a) (b := b) (c := c) (d := d) u
    obtain ⟨p, hp⟩ : ∃ q, q = afN a b c d (a * c) (b * d) := ⟨_, rfl⟩
    obtain ⟨q, hq⟩ : ∃ q, q = afD a b c d (a * c) (b * d) := ⟨_, rfl⟩
    obtain ⟨ok2, hok2⟩ : ∃ q, q = afB a b c d (a * c) (b * d) := ⟨_, rfl⟩
    rw [← hp, ← hq, ← hok2] at hA hB
    replace hp := hid hp
    replace hq := hid hq
    replace hok2 := hid hok2
    replace hA := hid hA
    replace hB := hid hB
    go_upto_if 70 with fail
    go_wp2_with fail
    refine (hA.out w6).mono ?_
    rintro e w7 ⟨rfl, e7⟩
    go_upto_region 9 with fail
    have p0 : (w7.alloc (.cells #[.int .i64 p, .int .i64 q] 25)).cell? ⟨w7.heap.size, 0, none⟩ = some (.int .i64 p) := by go_simp
    have p1 : (w7.alloc (.cells #[.int .i64 p, .int .i64 q] 25)).cell? ⟨w7.heap.size, 1, none⟩ = some (.int .i64 q) := by go_simp
    have ew8 : Ext w7 (w7.alloc (.cells #[.int .i64 p, .int .i64 q] 25)) := inferInstance
    generalize w7.alloc (.cells #[.int .i64 p, .int .i64 q] 25) = w8 at *
    have f68 : Ext w6 w8 := Ext.trans e7 ew8
    have a0 := f68.cell a0
    have a1 := f68.cell a1
    have b0 := f68.cell b0
    have b1 := f68.cell b1
    have s0 := f68.cell s0
    have s1 := f68.cell s1
    go_wp2_with fail
    refine (hB.out w8).mono ?_
    rintro e w9 ⟨rfl, e9⟩
    go_upto_region 10 with fail
    have q0 : (w9.alloc (.cells #[.int .i64 p, .int .i64 q] 25)).cell? ⟨w9.heap.size, 0, none⟩ = some (.int .i64 p) := by go_simp
    have q1 : (w9.alloc (.cells #[.int .i64 p, .int .i64 q] 25)).cell? ⟨w9.heap.size, 1, none⟩ = some (.int .i64 q) := by go_simp
    have ewa : Ext w9 (w9.alloc (.cells #[.int .i64 p, .int .i64 q] 25)) := inferInstance
    generalize w9.alloc (.cells #[.int .i64 p, .int .i64 q] 25) = wa at *
    have f8a : Ext w8 wa := Ext.trans e9 ewa
    have a0 := f8a.cell a0
    have a1 := f8a.cell a1
    have b0 := f8a.cell b0
    have b1 := f8a.cell b1
    have s0 := f8a.cell s0
    have s1 := f8a.cell s1
    have p0 := f8a.cell p0
    have p1 := f8a.cell p1
    have ca : Ext w wa := Ext.trans c2 (Ext.trans f24 (Ext.trans f46 (Ext.trans f68 f8a)))
    clear f24 f46 f68 f8a c2 e1 e3 e5 e7 e9 ew4 ew6 ew8 ewa t0 t1 hA hB
    go_upto_if 91 with fail
    go_cut [] (fun wx => Ext wa wx)
    case first =>
      cases ok1 with
      | false =>
        go_wp2_with fail
        go_meet
        exact Ext.refl _
      | true =>
        obtain ⟨k1, k2, k3, k4, k5⟩ := sub_back hs.out hst.out hok1.out.symm
        have hS := fun (u : World) => implSub_any (a := s) (b := t) (c := c) (d := d) u
        rw [k3, k4, k5] at hS
        replace hS := hid hS
        clear k3 k4 k5
        go_wp2_with fail
        refine (hS.out wa).mono ?_
        rintro e wb ⟨rfl, eb⟩
        go_upto_region 14 with fail
        have z0 : (wb.alloc (.cells #[.int .i64 a, .int .i64 b] 25)).cell? ⟨wb.heap.size, 0, none⟩ = some (.int .i64 a) := by go_simp
        have z1 : (wb.alloc (.cells #[.int .i64 a, .int .i64 b] 25)).cell? ⟨wb.heap.size, 1, none⟩ = some (.int .i64 b) := by go_simp
        have ewc : Ext wb (wb.alloc (.cells #[.int .i64 a, .int .i64 b] 25)) := inferInstance
        generalize wb.alloc (.cells #[.int .i64 a, .int .i64 b] 25) = wc at *
        have fac : Ext wa wc := Ext.trans eb ewc
        have a0 := fac.cell a0
        have a1 := fac.cell a1
        have b0 := fac.cell b0
        have b1 := fac.cell b1
        go_wp2_with fail
        go_meet
        exact fac
    case rest => as_aux_lemma =>
      obtain ⟨wd, rfl⟩ : ∃ z : World, z = wc := ⟨_, rfl⟩
      have ead : Ext wa wd := hcut
      have a0 := ead.cell a0
      have a1 := ead.cell a1
      have b0 := ead.cell b0
      have b1 := ead.cell b1
      have p0 := ead.cell p0
      have p1 := ead.cell p1
      have cd : Ext w wd := Ext.trans ca ead
      clear hcut ead ca
      go_upto_region 16 with fail
      go_cut [110] (fun v wx => v = .bool (ok2 && (c != 0)) ∧ wx = wd)
      case first =>
        cases ok2 with
        | false =>
          go_wp2_with fail
          go_meet
          exact ⟨rfl, rfl⟩
        | true =>
          by_cases h0 : c = 0
          · have h0' : (c == 0) = true := beq_iff_eq.2 h0
            replace h0 := hid h0
            go_wp2_with fail
            go_meet
            exact ⟨by first | rfl | (simp [h0.out]; done) | simp [bne, h0'], rfl⟩
          · have h0' : (c == 0) = false := beq_eq_false_iff_ne.2 h0
            replace h0 := hid h0
            go_wp2_with fail
            go_meet
            exact ⟨by first | rfl | (simp [h0.out]; done) | simp [bne, h0'], rfl⟩
      case rest => as_aux_lemma =>
        obtain ⟨hv, hwe⟩ := hcut
        subst hwe
        subst hv
        obtain ⟨wd, rfl⟩ : ∃ z : World, z = wc := ⟨_, rfl⟩
        obtain ⟨B2, hB2⟩ : ∃ z : Bool, z = (ok2 && (c != 0)) := ⟨_, rfl⟩
        rw [← hB2]
        replace hB2 := hid hB2
        go_upto_if 110 with fail
        go_cut [] (fun wx => Ext wd wx)
        case first =>
          cases B2 with
          | false =>
            go_wp2_with fail
            go_meet
            exact Ext.refl _
          | true =>
            have h2 := hB2.out.symm
            rw [Bool.and_eq_true] at h2
            have h0 : c ≠ 0 := by
              intro h; rw [h] at h2; simp at h2
            obtain ⟨h2, _⟩ := h2
            have hdv : Hid (∀ u : World, Calls Tryd.prog 11 #[.agg #[.int .i64 p, .int .i64 q], .agg #[.int .i64 c, .int .i64 d]] u fun e w' => e = .returned (.tuple #[.agg #[.int .i64 a, .int .i64 b], .bool true]) ∧ Ext u w') := by
              refine hid fun u => ?_
              by_cases hn : c < 0
              · obtain ⟨k1, k2, k3, k4, k5⟩ := div_neg hn hp.out hq.out (hok2.out.symm.trans h2)
                have h := divNeg_any (a := p) (b := q) (c := c) (d := d) (by rw [fcB, k1, k2]; rfl) hn k5 u
                rwa [k3, k4] at h
              · obtain ⟨k1, k2, k3, k4, k5⟩ := div_pos (show 0 < c by omega) hp.out hq.out (hok2.out.symm.trans h2)
                have h := divPos_any (a := p) (b := q) (c := c) (d := d) (by rw [fcB, k1, k2]; rfl) (by omega) k5 u
                rwa [k3, k4] at h
            replace h0 := hid h0
            replace h2 := hid h2
            go_wp2_with fail
            refine (hdv.out wd).mono ?_
            rintro e we ⟨rfl, ee⟩
            go_upto_region 18 with fail
            have z0 : (we.alloc (.cells #[.int .i64 a, .int .i64 b] 25)).cell? ⟨we.heap.size, 0, none⟩ = some (.int .i64 a) := by go_simp
            have z1 : (we.alloc (.cells #[.int .i64 a, .int .i64 b] 25)).cell? ⟨we.heap.size, 1, none⟩ = some (.int .i64 b) := by go_simp
            have ewf : Ext we (we.alloc (.cells #[.int .i64 a, .int .i64 b] 25)) := inferInstance
            generalize we.alloc (.cells #[.int .i64 a, .int .i64 b] 25) = wf at *
            have fdf : Ext wd wf := Ext.trans ee ewf
            have a0 := fdf.cell a0
            have a1 := fdf.cell a1
            have b0 := fdf.cell b0
            have b1 := fdf.cell b1
            go_wp2_with fail
            go_meet
            exact fdf
        case rest => as_aux_lemma =>
          obtain ⟨wg, rfl⟩ : ∃ z : World, z = wc := ⟨_, rfl⟩
          have edg : Ext wd wg := hcut
          have a0 := edg.cell a0
          have a1 := edg.cell a1
          have b0 := edg.cell b0
          have b1 := edg.cell b1
          have cg : Ext w wg := Ext.trans cd edg
          clear hcut edg cd p0 p1 s0 s1 hp hq hok2 hs hst hok1 q0 q1 hB2 B2
          obtain ⟨S, hS⟩ : ∃ z, z = fcV a b c d := ⟨_, rfl⟩
          have hSb : -1 ≤ S ∧ S ≤ 1 := by
            rw [hS, fcV]
            split
            · rw [cmp1]; split
              · omega
              · split <;> omega
            · omega
          replace hS := hid hS
          obtain ⟨T, hT⟩ : ∃ z, z = fcB a b c d := ⟨_, rfl⟩
          replace hT := hid hT
          have hC1 : ∀ u : World, Calls Tryd.prog 12 #[.agg #[.int .i64 a, .int .i64 b], .agg #[.int .i64 c, .int .i64 d]] u fun e w' => e = .returned (.tuple #[.int .i64 S, .bool T]) ∧ Ext u w' := fun u => by
            have h := CompareFracs_any (a := a) (b := b) (c := c) (d := d) u
            rw [← hT.out, ← hS.out] at h
            exact h
          have hC2 : ∀ u : World, Calls Tryd.prog 12 #[.agg #[.int .i64 c, .int .i64 d], .agg #[.int .i64 a, .int .i64 b]] u fun e w' => e = .returned (.tuple #[.int .i64 (-S), .bool T]) ∧ Ext u w' := fun u => by
            have h := CompareFracs_any (a := c) (b := d) (c := a) (d := b) u
            rw [fcV_anti c d a b, fcB_comm c d a b, ← hT.out, ← hS.out] at h
            exact h
          replace hC1 := hid hC1
          replace hC2 := hid hC2
          go_wp2_with fail
          refine (hC1.out wg).mono ?_
          rintro e wh ⟨rfl, eh⟩
          have a0 := eh.cell a0
          have a1 := eh.cell a1
          have b0 := eh.cell b0
          have b1 := eh.cell b1
          go_wp2_with fail
          refine (hC2.out wh).mono ?_
          rintro e wi ⟨rfl, ei⟩
          have a0 := ei.cell a0
          have a1 := ei.cell a1
          have b0 := ei.cell b0
          have b1 := ei.cell b1
          have ci : Ext w wi := Ext.trans cg (Ext.trans eh ei)
          clear eh ei hC1 hC2
          go_upto_region 22 with fail
          go_cut [155] (fun v wx => v = .bool false ∧ wx = wi)
          case first =>
            cases T with
            | false =>
              go_wp2_with fail
              go_meet
              exact ⟨rfl, rfl⟩
            | true =>
              have hz := fcV_zero hT.out.symm
              rw [← hS.out] at hz
              by_cases hac : a = c ∧ b = d
              · have hS0 : S = 0 := hz.2 hac
                obtain ⟨x1, x2⟩ := hac
                have y1 : (a == c) = true := beq_iff_eq.2 x1
                have y2 : (b == d) = true := beq_iff_eq.2 x2
                subst hS0
                replace x1 := hid x1
                replace x2 := hid x2
                replace hz := hid hz
                go_wp2_with fail
                go_meet
                exact ⟨rfl, rfl⟩
              · have hS0 : S ≠ 0 := fun h => hac (hz.1 h)
                have y0 : (S == 0) = false := beq_eq_false_iff_ne.2 hS0
                replace hS0 := hid hS0
                replace hz := hid hz
                by_cases x1 : a = c
                · have y1 : (a == c) = true := beq_iff_eq.2 x1
                  have y2 : (b == d) = false := beq_eq_false_iff_ne.2 fun h => hac ⟨x1, h⟩
                  replace x1 := hid x1
                  replace hac := hid hac
                  go_wp2_with fail
                  go_meet
                  exact ⟨rfl, rfl⟩
                · have y1 : (a == c) = false := beq_eq_false_iff_ne.2 x1
                  replace x1 := hid x1
                  replace hac := hid hac
                  go_wp2_with fail
                  go_meet
                  exact ⟨rfl, rfl⟩
          case rest => as_aux_lemma =>
            obtain ⟨hv, hwe⟩ := hcut
            subst hwe
            subst hv
            obtain ⟨wi, rfl⟩ : ∃ z : World, z = wc := ⟨_, rfl⟩
            clear hT hS hSb
            have hti := hid (ht.out.ext (w' := wi))
            have hFT := fun (u : World) (hu : Tens u) => FracText_any (n := a) (d := b) hu
            have hIF := fun (u : World) => IsFrac_any (n := a) (d := b) u
            obtain ⟨X, hX⟩ : ∃ z, z = bsOf (ftS a b) := ⟨_, rfl⟩
            obtain ⟨F, hF⟩ : ∃ z, z = fracB a b := ⟨_, rfl⟩
            rw [← hX, ← hF] at hFT
            rw [← hF] at hIF
            replace hX := hid hX
            replace hF := hid hF
            replace hFT := hid hFT
            replace hIF := hid hIF
            go_wp2_with fail
            refine (hFT.out wi hti.out).mono ?_
            rintro e wj ⟨rfl, ej⟩
            have a0 := ej.cell a0
            have a1 := ej.cell a1
            have b0 := ej.cell b0
            have b1 := ej.cell b1
            go_wp2_with fail
            refine (hIF.out wj).mono ?_
            rintro e wk ⟨rfl, ek⟩
            have a0 := ek.cell a0
            have a1 := ek.cell a1
            have b0 := ek.cell b0
            have b1 := ek.cell b1
            have ck0 : Ext w wk := Ext.trans ci (Ext.trans ej ek)
            clear ej ek hFT hIF
            go_upto_if 165 with fail
            cases F with
            | false =>
              clear hX hF b0 b1 a0 a1
              go_wp2_with fail
              refine (drawFB_any (w0 := w) (w := wk) hc').mono ?_
              rintro e wj ⟨xa, xb, xc, xd, rfl, ej⟩
              go_upto_region 36 with fail
              obtain ⟨wk, hwk⟩ : ∃ u, u = (wj.alloc (.cells #[.int .i64 xa, .int .i64 xb] 25)).alloc (.cells #[.int .i64 xc, .int .i64 xd] 25) := ⟨_, rfl⟩
              have x0 : wk.cell? ⟨wj.heap.size, 0, none⟩ = some (.int .i64 xa) := by rw [hwk]; go_simp
              have x1 : wk.cell? ⟨wj.heap.size, 1, none⟩ = some (.int .i64 xb) := by rw [hwk]; go_simp
              have y0 : wk.cell? ⟨wj.heap.size + 1, 0, none⟩ = some (.int .i64 xc) := by rw [hwk]; go_simp
              have y1 : wk.cell? ⟨wj.heap.size + 1, 1, none⟩ = some (.int .i64 xd) := by rw [hwk]; go_simp
              have ck : Ext w wk := Ext.trans ck0 (Ext.trans ej (by rw [hwk]; infer_instance))
              rw [← hwk]
              replace hwk := hid hwk
              clear ej
              go_wp2_with fail
              refine (implBt_any (a := xa) (b := xb) (c := xc) (d := xd) wk).mono ?_
              rintro e wl ⟨n, m, ok, rfl, hp1, el⟩
              go_upto_region 37 with fail
              have m0 : (wl.alloc (.cells #[.int .i64 n, .int .i64 m] 25)).cell? ⟨wl.heap.size, 0, none⟩ = some (.int .i64 n) := by go_simp
              have m1 : (wl.alloc (.cells #[.int .i64 n, .int .i64 m] 25)).cell? ⟨wl.heap.size, 1, none⟩ = some (.int .i64 m) := by go_simp
              have ewm : Ext wl (wl.alloc (.cells #[.int .i64 n, .int .i64 m] 25)) := inferInstance
              generalize wl.alloc (.cells #[.int .i64 n, .int .i64 m] 25) = wm at *
              have fkm : Ext wk wm := Ext.trans el ewm
              have x0 := fkm.cell x0
              have x1 := fkm.cell x1
              have y0 := fkm.cell y0
              have y1 := fkm.cell y1
              go_wp2_with fail
              refine (specBt_any (a := xa) (b := xb) (c := xc) (d := xd) wm).mono ?_
              rintro e wn ⟨n', m', ok', rfl, hp2, en⟩
              obtain ⟨rfl, rfl, rfl⟩ := fb_eq hp1 hp2
              go_upto_region 38 with fail
              have r0 : (wn.alloc (.cells #[.int .i64 n, .int .i64 m] 25)).cell? ⟨wn.heap.size, 0, none⟩ = some (.int .i64 n) := by go_simp
              have r1 : (wn.alloc (.cells #[.int .i64 n, .int .i64 m] 25)).cell? ⟨wn.heap.size, 1, none⟩ = some (.int .i64 m) := by go_simp
              have ewo : Ext wn (wn.alloc (.cells #[.int .i64 n, .int .i64 m] 25)) := inferInstance
              generalize wn.alloc (.cells #[.int .i64 n, .int .i64 m] 25) = wo at *
              have fmo : Ext wm wo := Ext.trans en ewo
              have x0 := fmo.cell x0
              have x1 := fmo.cell x1
              have y0 := fmo.cell y0
              have y1 := fmo.cell y1
              have m0 := fmo.cell m0
              have m1 := fmo.cell m1
              have co : Ext w wo := Ext.trans ck (Ext.trans fkm fmo)
              clear fkm fmo el ewm en ewo
              cases ok with
              | false =>
                go_wp2_with fail
                go_ret
                exact ⟨rfl, co⟩
              | true =>
                rcases hp1 with ⟨hfc, hbt⟩ | ⟨_, _, _, h⟩
                rotate_left
                · cases h
                have hf2 := hfc
                unfold fcB at hf2
                rw [Bool.and_eq_true] at hf2
                obtain ⟨g1, g2, g3, g4, g5, g6⟩ := bt_cmp hbt hf2.1 hf2.2
                have hC1 : ∀ u : World, Calls Tryd.prog 12 #[.agg #[.int .i64 xa, .int .i64 xb], .agg #[.int .i64 n, .int .i64 m]] u fun e w' => e = .returned (.tuple #[.int .i64 (-1), .bool true]) ∧ Ext u w' := fun u => by
                  have h := CompareFracs_any (a := xa) (b := xb) (c := n) (d := m) u
                  rw [g4, g2] at h
                  exact h
                have hC2 : ∀ u : World, Calls Tryd.prog 12 #[.agg #[.int .i64 n, .int .i64 m], .agg #[.int .i64 xc, .int .i64 xd]] u fun e w' => e = .returned (.tuple #[.int .i64 (-1), .bool true]) ∧ Ext u w' := fun u => by
                  have h := CompareFracs_any (a := n) (b := m) (c := xc) (d := xd) u
                  rw [g5, g3] at h
                  exact h
                have q1 := fracB_in hf2.1
                have q2 := fracB_in hf2.2
                replace hC1 := hid hC1
                replace hC2 := hid hC2
                replace g1 := hid g1
                replace g2 := hid g2
                replace g3 := hid g3
                replace g4 := hid g4
                replace g5 := hid g5
                replace g6 := hid g6
                replace hf2 := hid hf2
                replace hfc := hid hfc
                replace hbt := hid hbt
                replace hp2 := hid hp2
                go_wp2_with fail
                refine (hC1.out wo).mono ?_
                rintro e wp ⟨rfl, ep⟩
                have x0 := ep.cell x0
                have x1 := ep.cell x1
                have y0 := ep.cell y0
                have y1 := ep.cell y1
                have m0 := ep.cell m0
                have m1 := ep.cell m1
                go_wp2_with fail
                refine (hC2.out wp).mono ?_
                rintro e wq ⟨rfl, eq⟩
                have x0 := eq.cell x0
                have x1 := eq.cell x1
                have y0 := eq.cell y0
                have y1 := eq.cell y1
                have m0 := eq.cell m0
                have m1 := eq.cell m1
                have cq : Ext w wq := Ext.trans co (Ext.trans ep eq)
                clear ep eq hC1 hC2
                go_wp2_with fail
                go_loopw [39, 40, 41, 42, 43] (fun p _ _ _ _ wr => ∃ k : Nat, p = .int .i64 k ∧ 1 ≤ k ∧ k ≤ 60 ∧ Ext wq wr) (fun p _ _ _ _ _ => 60 - (intOf p).toNat)
                case atStart => exact ⟨1, rfl, by omega, by omega, Ext.refl _⟩
                case round =>
                  obtain ⟨k, rfl, hk1, hk2, he'⟩ := hrel
                  have x0 := he'.cell x0
                  have x1 := he'.cell x1
                  have y0 := he'.cell y0
                  have y1 := he'.cell y1
                  have m0 := he'.cell m0
                  have m1 := he'.cell m1
                  by_cases hm1 : (k : Int) < m
                  · by_cases hm2 : (k : Int) < 60
                    · obtain ⟨u1, u2⟩ := quo_den (a := xa) (b := xb) (e := k) (by omega) hk1 (by omega)
                      have u3 := mul_in (a := xc) (b := (k : Int)) (by omega) (by omega)
                      have hM := fun (u : World) => MakeFrac_any (n := xa * (k : Int)) (d := xb) (by omega) (by omega) (by omega) (by omega) u
                      have hcr := mk_cross (n := xa * (k : Int)) (d := xb) (by omega)
                      have hko := g6.out (k : Int) (by omega) hm1
                      obtain ⟨Q, hQ⟩ : ∃ z, z = xa * (k : Int) / xb := ⟨_, rfl⟩
                      have hQ2 : btN xa xb (k : Int) = Q + 1 := by rw [hQ]; rfl
                      unfold btOk at hko
                      rw [hQ2, decide_eq_false_iff_not] at hko
                      rw [← hQ] at u2
                      have u4 := quo_mul (q := Q) (d := xd) u2 (by omega)
                      have hFl : ∀ u : World, mkB (xa * (k : Int)) xb = true → Calls Tryd.prog 16 #[.agg #[.int .i64 (mrN (xa * (k : Int)) xb), .int .i64 (mrD (xa * (k : Int)) xb)]] u fun e w' => e = .returned (.tuple #[.int .i64 Q, .bool true]) ∧ Ext u w' := fun u hb => by
                        have e1 : mrN (xa * (k : Int)) xb = mkN (xa * (k : Int)) xb := by rw [mrN, hb, if_pos rfl]
                        have e2 : mrD (xa * (k : Int)) xb = mkD (xa * (k : Int)) xb := by rw [mrD, hb, if_pos rfl]
                        have hb2 : fracB (mkN (xa * (k : Int)) xb) (mkD (xa * (k : Int)) xb) = true := hb
                        have h := FloorFrac_any hb2 u
                        have hd := fracB_in hb2
                        rw [div_cross (show 1 ≤ xb by omega) hd.1 hcr, ← hQ] at h
                        rw [e1, e2]
                        exact h
                      obtain ⟨rn, hrn⟩ : ∃ z, z = mrN (xa * (k : Int)) xb := ⟨_, rfl⟩
                      obtain ⟨rd, hrd⟩ : ∃ z, z = mrD (xa * (k : Int)) xb := ⟨_, rfl⟩
                      obtain ⟨rb, hrb⟩ : ∃ z, z = mkB (xa * (k : Int)) xb := ⟨_, rfl⟩
                      rw [← hrn, ← hrd, ← hrb] at hM
                      rw [← hrn, ← hrd, ← hrb] at hFl
                      replace hM := hid hM
                      replace hFl := hid hFl
                      replace hrn := hid hrn
                      replace hrd := hid hrd
                      replace hrb := hid hrb
                      replace hQ := hid hQ
                      replace hQ2 := hid hQ2
                      replace hcr := hid hcr
                      go_wp2_with fail
                      refine (hM.out wr).mono ?_
                      rintro e ws ⟨rfl, es⟩
                      go_upto_region 50 with fail
                      have l0 : (ws.alloc (.cells #[.int .i64 rn, .int .i64 rd] 25)).cell? ⟨ws.heap.size, 0, none⟩ = some (.int .i64 rn) := by go_simp
                      have l1 : (ws.alloc (.cells #[.int .i64 rn, .int .i64 rd] 25)).cell? ⟨ws.heap.size, 1, none⟩ = some (.int .i64 rd) := by go_simp
                      have ewt : Ext ws (ws.alloc (.cells #[.int .i64 rn, .int .i64 rd] 25)) := inferInstance
                      generalize ws.alloc (.cells #[.int .i64 rn, .int .i64 rd] 25) = wt at *
                      have frt : Ext wr wt := Ext.trans es ewt
                      have x0 := frt.cell x0
                      have x1 := frt.cell x1
                      have y0 := frt.cell y0
                      have y1 := frt.cell y1
                      cases rb with
                      | false =>
                        go_wp2_with fail
                        go_roundw
                        case rel => exact ⟨k + 1, by simp, by omega, by omega, Ext.trans he' frt⟩
                        case measure => simp [intOf]; omega
                      | true =>
                        go_wp2_with fail
                        refine (hFl.out wt (by simp)).mono ?_
                        rintro e wu ⟨rfl, eu⟩
                        have x0 := eu.cell x0
                        have x1 := eu.cell x1
                        have y0 := eu.cell y0
                        have y1 := eu.cell y1
                        go_wp2_with fail
                        go_roundw
                        case rel => exact ⟨k + 1, by simp, by omega, by omega, Ext.trans he' (Ext.trans frt eu)⟩
                        case measure => simp [intOf]; omega
                    · go_wp2_with fail
                      go_ret
                      exact ⟨rfl, Ext.trans cq he'⟩
                  · go_wp2_with fail
                    go_ret
                    exact ⟨rfl, Ext.trans cq he'⟩
            | true =>
              have hfr : fracB a b = true := hF.out.symm
              have hX2 : X = bsOf (ftL a b) := by rw [hX.out, ftS, hfr, if_pos rfl]
              have hP := fun (u : World) (h1 : Tens u) (h2 : Errs u) (h3 : Most u) => ParseFrac_any hfr (w := u) h1 h2 h3
              have hLo := fun (u : World) => FloorFrac_any hfr u
              have hHi := fun (u : World) => CeilFrac_any hfr u
              obtain ⟨v1, v2, v3, v4, v5, v6⟩ := floors hfr
              obtain ⟨Q, hQ⟩ : ∃ z, z = a / b := ⟨_, rfl⟩
              obtain ⟨R, hR⟩ : ∃ z, z = -((-a) / b) := ⟨_, rfl⟩
              rw [← hX2] at hP
              rw [← hQ] at hLo v1 v3 v4 v5
              rw [← hR] at hHi v2 v3 v4 v6
              have hb := fracB_in hfr
              have v7 := mul_in (a := Q) (b := b) v5 (by omega)
              have v8 := mul_in (a := R) (b := b) v6 (by omega)
              have v9 : (R == Q) = (b == 1) := by rw [Bool.eq_iff_iff, beq_iff_eq, beq_iff_eq]; exact v4
              replace v4 := hid v4
              replace hfr := hid hfr
              replace hX2 := hid hX2
              replace hQ := hid hQ
              replace hR := hid hR
              replace hP := hid hP
              replace hLo := hid hLo
              replace hHi := hid hHi
              have w1 := hid (ht.out.ext (w' := wk))
              have w2 := hid (he.out.ext (w' := wk))
              have w3 := hid (hm.out.ext (w' := wk))
              go_wp2_with fail
              refine (hP.out wk w1.out w2.out w3.out).mono ?_
              rintro e wl ⟨rfl, el⟩
              go_upto_region 29 with fail
              have z0 : (wl.alloc (.cells #[.int .i64 a, .int .i64 b] 25)).cell? ⟨wl.heap.size, 0, none⟩ = some (.int .i64 a) := by go_simp
              have z1 : (wl.alloc (.cells #[.int .i64 a, .int .i64 b] 25)).cell? ⟨wl.heap.size, 1, none⟩ = some (.int .i64 b) := by go_simp
              have ewm : Ext wl (wl.alloc (.cells #[.int .i64 a, .int .i64 b] 25)) := inferInstance
              generalize wl.alloc (.cells #[.int .i64 a, .int .i64 b] 25) = wm at *
              have fkm : Ext wk wm := Ext.trans el ewm
              have a0 := fkm.cell a0
              have a1 := fkm.cell a1
              have b0 := fkm.cell b0
              have b1 := fkm.cell b1
              go_wp2_with fail
              refine (hLo.out wm).mono ?_
              rintro e wn ⟨rfl, en⟩
              have a0 := en.cell a0
              have a1 := en.cell a1
              have b0 := en.cell b0
              have b1 := en.cell b1
              go_wp2_with fail
              refine (hHi.out wn).mono ?_
              rintro e wo ⟨rfl, eo⟩
              have a0 := eo.cell a0
              have a1 := eo.cell a1
              have b0 := eo.cell b0
              have b1 := eo.cell b1
              have co0 : Ext w wo := Ext.trans ck0 (Ext.trans fkm (Ext.trans en eo))
              clear fkm en eo el ewm hP hLo hHi w1 w2 w3
              go_upto_region 35 with fail
              clear hX hF b0 b1 a0 a1 v1 v2 v3 v4 v5 v6 v7 v8 v9 hb hfr hX2 hQ hR z0 z1
              go_wp2_with fail
              refine (drawFB_any (w0 := w) (w := wo) hc').mono ?_
              rintro e wj ⟨xa, xb, xc, xd, rfl, ej⟩
              go_upto_region 36 with fail
              obtain ⟨wk, hwk⟩ : ∃ u, u = (wj.alloc (.cells #[.int .i64 xa, .int .i64 xb] 25)).alloc (.cells #[.int .i64 xc, .int .i64 xd] 25) := ⟨_, rfl⟩
              have x0 : wk.cell? ⟨wj.heap.size, 0, none⟩ = some (.int .i64 xa) := by rw [hwk]; go_simp
              have x1 : wk.cell? ⟨wj.heap.size, 1, none⟩ = some (.int .i64 xb) := by rw [hwk]; go_simp
              have y0 : wk.cell? ⟨wj.heap.size + 1, 0, none⟩ = some (.int .i64 xc) := by rw [hwk]; go_simp
              have y1 : wk.cell? ⟨wj.heap.size + 1, 1, none⟩ = some (.int .i64 xd) := by rw [hwk]; go_simp
              have ck : Ext w wk := Ext.trans co0 (Ext.trans ej (by rw [hwk]; infer_instance))
              rw [← hwk]
              replace hwk := hid hwk
              clear ej
              go_wp2_with fail
              refine (implBt_any (a := xa) (b := xb) (c := xc) (d := xd) wk).mono ?_
              rintro e wl ⟨n, m, ok, rfl, hp1, el⟩
              go_upto_region 37 with fail
              have m0 : (wl.alloc (.cells #[.int .i64 n, .int .i64 m] 25)).cell? ⟨wl.heap.size, 0, none⟩ = some (.int .i64 n) := by go_simp
              have m1 : (wl.alloc (.cells #[.int .i64 n, .int .i64 m] 25)).cell? ⟨wl.heap.size, 1, none⟩ = some (.int .i64 m) := by go_simp
              have ewm : Ext wl (wl.alloc (.cells #[.int .i64 n, .int .i64 m] 25)) := inferInstance
              generalize wl.alloc (.cells #[.int .i64 n, .int .i64 m] 25) = wm at *
              have fkm : Ext wk wm := Ext.trans el ewm
              have x0 := fkm.cell x0
              have x1 := fkm.cell x1
              have y0 := fkm.cell y0
              have y1 := fkm.cell y1
              go_wp2_with fail
              refine (specBt_any (a := xa) (b := xb) (c := xc) (d := xd) wm).mono ?_
              rintro e wn ⟨n', m', ok', rfl, hp2, en⟩
              obtain ⟨rfl, rfl, rfl⟩ := fb_eq hp1 hp2
              go_upto_region 38 with fail
              have r0 : (wn.alloc (.cells #[.int .i64 n, .int .i64 m] 25)).cell? ⟨wn.heap.size, 0, none⟩ = some (.int .i64 n) := by go_simp
              have r1 : (wn.alloc (.cells #[.int .i64 n, .int .i64 m] 25)).cell? ⟨wn.heap.size, 1, none⟩ = some (.int .i64 m) := by go_simp
              have ewo : Ext wn (wn.alloc (.cells #[.int .i64 n, .int .i64 m] 25)) := inferInstance
              generalize wn.alloc (.cells #[.int .i64 n, .int .i64 m] 25) = wo at *
              have fmo : Ext wm wo := Ext.trans en ewo
              have x0 := fmo.cell x0
              have x1 := fmo.cell x1
              have y0 := fmo.cell y0
              have y1 := fmo.cell y1
              have m0 := fmo.cell m0
              have m1 := fmo.cell m1
              have co : Ext w wo := Ext.trans ck (Ext.trans fkm fmo)
              clear fkm fmo el ewm en ewo
              cases ok with
              | false =>
                go_wp2_with fail
                go_ret
                exact ⟨rfl, co⟩
              | true =>
                rcases hp1 with ⟨hfc, hbt⟩ | ⟨_, _, _, h⟩
                rotate_left
                · cases h
                have hf2 := hfc
                unfold fcB at hf2
                rw [Bool.and_eq_true] at hf2
                obtain ⟨g1, g2, g3, g4, g5, g6⟩ := bt_cmp hbt hf2.1 hf2.2
                have hC1 : ∀ u : World, Calls Tryd.prog 12 #[.agg #[.int .i64 xa, .int .i64 xb], .agg #[.int .i64 n, .int .i64 m]] u fun e w' => e = .returned (.tuple #[.int .i64 (-1), .bool true]) ∧ Ext u w' := fun u => by
                  have h := CompareFracs_any (a := xa) (b := xb) (c := n) (d := m) u
                  rw [g4, g2] at h
                  exact h
                have hC2 : ∀ u : World, Calls Tryd.prog 12 #[.agg #[.int .i64 n, .int .i64 m], .agg #[.int .i64 xc, .int .i64 xd]] u fun e w' => e = .returned (.tuple #[.int .i64 (-1), .bool true]) ∧ Ext u w' := fun u => by
                  have h := CompareFracs_any (a := n) (b := m) (c := xc) (d := xd) u
                  rw [g5, g3] at h
                  exact h
                have q1 := fracB_in hf2.1
                have q2 := fracB_in hf2.2
                replace hC1 := hid hC1
                replace hC2 := hid hC2
                replace g1 := hid g1
                replace g2 := hid g2
                replace g3 := hid g3
                replace g4 := hid g4
                replace g5 := hid g5
                replace g6 := hid g6
                replace hf2 := hid hf2
                replace hfc := hid hfc
                replace hbt := hid hbt
                replace hp2 := hid hp2
                go_wp2_with fail
                refine (hC1.out wo).mono ?_
                rintro e wp ⟨rfl, ep⟩
                have x0 := ep.cell x0
                have x1 := ep.cell x1
                have y0 := ep.cell y0
                have y1 := ep.cell y1
                have m0 := ep.cell m0
                have m1 := ep.cell m1
                go_wp2_with fail
                refine (hC2.out wp).mono ?_
                rintro e wq ⟨rfl, eq⟩
                have x0 := eq.cell x0
                have x1 := eq.cell x1
                have y0 := eq.cell y0
                have y1 := eq.cell y1
                have m0 := eq.cell m0
                have m1 := eq.cell m1
                have cq : Ext w wq := Ext.trans co (Ext.trans ep eq)
                clear ep eq hC1 hC2
                go_wp2_with fail
                go_loopw [39, 40, 41, 42, 43] (fun p _ _ _ _ wr => ∃ k : Nat, p = .int .i64 k ∧ 1 ≤ k ∧ k ≤ 60 ∧ Ext wq wr) (fun p _ _ _ _ _ => 60 - (intOf p).toNat)
                case atStart => exact ⟨1, rfl, by omega, by omega, Ext.refl _⟩
                case round =>
                  obtain ⟨k, rfl, hk1, hk2, he'⟩ := hrel
                  have x0 := he'.cell x0
                  have x1 := he'.cell x1
                  have y0 := he'.cell y0
                  have y1 := he'.cell y1
                  have m0 := he'.cell m0
                  have m1 := he'.cell m1
                  by_cases hm1 : (k : Int) < m
                  · by_cases hm2 : (k : Int) < 60
                    · obtain ⟨u1, u2⟩ := quo_den (a := xa) (b := xb) (e := k) (by omega) hk1 (by omega)
                      have u3 := mul_in (a := xc) (b := (k : Int)) (by omega) (by omega)
                      have hM := fun (u : World) => MakeFrac_any (n := xa * (k : Int)) (d := xb) (by omega) (by omega) (by omega) (by omega) u
                      have hcr := mk_cross (n := xa * (k : Int)) (d := xb) (by omega)
                      have hko := g6.out (k : Int) (by omega) hm1
                      obtain ⟨Q, hQ⟩ : ∃ z, z = xa * (k : Int) / xb := ⟨_, rfl⟩
                      have hQ2 : btN xa xb (k : Int) = Q + 1 := by rw [hQ]; rfl
                      unfold btOk at hko
                      rw [hQ2, decide_eq_false_iff_not] at hko
                      rw [← hQ] at u2
                      have u4 := quo_mul (q := Q) (d := xd) u2 (by omega)
                      have hFl : ∀ u : World, mkB (xa * (k : Int)) xb = true → Calls Tryd.prog 16 #[.agg #[.int .i64 (mrN (xa * (k : Int)) xb), .int .i64 (mrD (xa * (k : Int)) xb)]] u fun e w' => e = .returned (.tuple #[.int .i64 Q, .bool true]) ∧ Ext u w' := fun u hb => by
                        have e1 : mrN (xa * (k : Int)) xb = mkN (xa * (k : Int)) xb := by rw [mrN, hb, if_pos rfl]
                        have e2 : mrD (xa * (k : Int)) xb = mkD (xa * (k : Int)) xb := by rw [mrD, hb, if_pos rfl]
                        have hb2 : fracB (mkN (xa * (k : Int)) xb) (mkD (xa * (k : Int)) xb) = true := hb
                        have h := FloorFrac_any hb2 u
                        have hd := fracB_in hb2
                        rw [div_cross (show 1 ≤ xb by omega) hd.1 hcr, ← hQ] at h
                        rw [e1, e2]
                        exact h
                      obtain ⟨rn, hrn⟩ : ∃ z, z = mrN (xa * (k : Int)) xb := ⟨_, rfl⟩
                      obtain ⟨rd, hrd⟩ : ∃ z, z = mrD (xa * (k : Int)) xb := ⟨_, rfl⟩
                      obtain ⟨rb, hrb⟩ : ∃ z, z = mkB (xa * (k : Int)) xb := ⟨_, rfl⟩
                      rw [← hrn, ← hrd, ← hrb] at hM
                      rw [← hrn, ← hrd, ← hrb] at hFl
                      replace hM := hid hM
                      replace hFl := hid hFl
                      replace hrn := hid hrn
                      replace hrd := hid hrd
                      replace hrb := hid hrb
                      replace hQ := hid hQ
                      replace hQ2 := hid hQ2
                      replace hcr := hid hcr
                      go_wp2_with fail
                      refine (hM.out wr).mono ?_
                      rintro e ws ⟨rfl, es⟩
                      go_upto_region 50 with fail
                      have l0 : (ws.alloc (.cells #[.int .i64 rn, .int .i64 rd] 25)).cell? ⟨ws.heap.size, 0, none⟩ = some (.int .i64 rn) := by go_simp
                      have l1 : (ws.alloc (.cells #[.int .i64 rn, .int .i64 rd] 25)).cell? ⟨ws.heap.size, 1, none⟩ = some (.int .i64 rd) := by go_simp
                      have ewt : Ext ws (ws.alloc (.cells #[.int .i64 rn, .int .i64 rd] 25)) := inferInstance
                      generalize ws.alloc (.cells #[.int .i64 rn, .int .i64 rd] 25) = wt at *
                      have frt : Ext wr wt := Ext.trans es ewt
                      have x0 := frt.cell x0
                      have x1 := frt.cell x1
                      have y0 := frt.cell y0
                      have y1 := frt.cell y1
                      cases rb with
                      | false =>
                        go_wp2_with fail
                        go_roundw
                        case rel => exact ⟨k + 1, by simp, by omega, by omega, Ext.trans he' frt⟩
                        case measure => simp [intOf]; omega
                      | true =>
                        go_wp2_with fail
                        refine (hFl.out wt (by simp)).mono ?_
                        rintro e wu ⟨rfl, eu⟩
                        have x0 := eu.cell x0
                        have x1 := eu.cell x1
                        have y0 := eu.cell y0
                        have y1 := eu.cell y1
                        go_wp2_with fail
                        go_roundw
                        case rel => exact ⟨k + 1, by simp, by omega, by omega, Ext.trans he' (Ext.trans frt eu)⟩
                        case measure => simp [intOf]; omega
                    · go_wp2_with fail
                      go_ret
                      exact ⟨rfl, Ext.trans cq he'⟩
                  · go_wp2_with fail
                    go_ret
                    exact ⟨rfl, Ext.trans cq he'⟩
end Go.Proofs.YtohjbabjkjcddaaDoor
