/- 'laws.FnSchedules': for every code the law returns true. -/
import Derived.Test.YtkniohcmhdgbeaaDrawS
import Derived.Test.YtkniohcmhdgbeaaRlaw
import Derived.Test.YtkniohcmhdgbeaaSchP
import Derived.Test.YtkniohcmhdgbeaaSchedC
import Derived.Test.YtkniohcmhdgbeaaBestI
import Derived.Test.YtkniohcmhdgbeaaNearI
import Derived.Test.YtkniohcmhdgbeaaFlatW
namespace Go.Proofs.Ytkniohcmhdgbeaa
open Go.RowKit

theorem Own.intsAs {w : World} {B e : Nat} {v u : Value} {xs : List Int} {R : List Row} (h : Own w B (intRowOf e v xs :: R)) (k : IsInts w u xs) : IsInts w v xs := by
  obtain ⟨a, c, _, h2, h3, _⟩ := k
  exact h.reads h2.1 h3
theorem IsRows.atx {w : World} {a : Option Addr} {n c : Nat} {xss : List (List Int)} (h : IsRows w (.slice a n c) xss) {w' : World} [e : Ext w w'] {k : Nat} (hk : k < xss.length) :
    ∃ b o d m, a = some ⟨b, o, none⟩ ∧ w'.cell? ⟨b, o + k, none⟩ = some (.slice d (row xss k).length m) ∧ IsInts w (.slice d (row xss k).length m) (row xss k) ∧ (row xss k).length ≤ 17592186044415 := h.at hk
theorem step_appendInts {P : Program} {ops : Array Oper} {o : Oper} {a : Act} {w : World} {K : Act → World → Prop} {Q : Exit → Act → World → Prop} {E0 : Prop} (hgd : o.guard = none) (s x : Operand) (t : TypeId)
    (ho : o.op = .call { callee := .builtin .append, args := #[s, x], argTypes := #[t, t] })
    {e : Nat} (E : Elem P t e (.int .i64 0) 1 8) {B : Nat} {R : List Row} {v u : Value} {n : Nat} {cs : List Value} (hs : a.eval s = v)
    (own : Own w B (⟨e, 1, v, n, cs⟩ :: R)) (hB : B ≤ w.heap.size) {ys : List Int} (hx : a.eval x = u) (hy : IsInts w u ys)
    (h63 : n + ys.length ≤ 17592186044415)
    (h : ∀ v' w', Own w' B (⟨e, 1, v', n + ys.length, cs ++ ys.map (Value.int .i64)⟩ :: R) → Below B w w' → K (a.put o.dst v') w') :
    if Region.wanted o (yielded ops a.tmps) = true then Oper.wp P o a w K Q else E0 := by
  have hw : Region.wanted o (yielded ops a.tmps) = true := by simp [Region.wanted, hgd]
  rw [if_pos hw]
  obtain ⟨d, c, rfl, hl⟩ := hy.form
  cases d with
  | some ad =>
    obtain ⟨v', w', hr, h2, h3⟩ := run_append_Own (P := P) (ty := o.type) E own hB (ad := ad) (m := ys.length) (c := c) (news := ys.map (Value.int .i64)) (by simp) (cells_of_ints hy) (by intro y hy'; simp at hy'; obtain ⟨k, _, rfl⟩ := hy'; rfl) (by unfold maxLen; omega) (by omega)
    unfold Oper.wp execOp
    simp only [ho, resolve, invoke, builtin, Sem.run_bind, Sem.run_pure, Result.andThen_ok, List.map_toArray, List.map_cons, List.map_nil, hs, hx]
    rw [hr]
    exact h v' w' h2 h3
  | none =>
    have hy0 : ys = [] := by
      cases ys with
      | nil => rfl
      | cons y ys =>
        obtain ⟨b, o, h1, _⟩ := hy.at (w' := w) (k := 0) (by simp)
        cases h1
    subst hy0
    have hr := run_append_none (P := P) (ty := o.type) E own.head c
    unfold Oper.wp execOp
    simp only [ho, resolve, invoke, builtin, Sem.run_bind, Sem.run_pure, Result.andThen_ok, List.map_toArray, List.map_cons, List.map_nil, hs, hx, List.length_nil]
    rw [hr]
    exact h v w (by rw [List.length_nil, Nat.add_zero, List.map_nil, List.append_nil]; exact own) (Below.refl _ _)

set_option maxHeartbeats 12000000 in
set_option maxRecDepth 100000 in
theorem lawFnSchedules_any {v : Value} {nb : Nat} {w : World} (hc : IsBytes w v nb) :
    Calls Try.prog 4 #[v] w fun e w' => e = .returned (.bool true) ∧ Ext w w' := by
  have hc' := hc
  obtain ⟨ac, cc, rfl⟩ := hc.form
  by_cases hbig : 65536 < nb
  · have hd := hid (decide_eq_true hbig)
    go_enter Try.func4, Try.ntmps4
    go_wp2_with fail
    refine (rBig_any hc').mono ?_
    rw [hd.out]
    rintro e w1 ⟨rfl, rfl⟩
    go_wp2_with fail
    go_ret
    exact ⟨rfl, Ext.refl _⟩
  · have hd := hid (decide_eq_false hbig)
    go_enter Try.func4, Try.ntmps4
    go_wp2_with fail
    refine (rBig_any hc').mono ?_
    rw [hd.out]
    rintro e w1 ⟨rfl, rfl⟩
    go_wp2_with fail
    refine (drawSC_any (w0 := w) (w := w) hc').mono ?_
    rintro e w1 ⟨pv, s, rv, yv, M, S, X, Y, rfl, hp, hs, hX, hY, hXl, e1⟩
    have hp' := hp
    obtain ⟨mv, sv, rfl, hM, hS⟩ := hp
    obtain ⟨a1, c1, rfl, l1⟩ := hM.form
    obtain ⟨a2, c2, rfl, l2⟩ := hS.form
    have hX' := hX
    obtain ⟨aX, cX, rfl, lX⟩ := hX.form
    have hY' := hY
    obtain ⟨aY, cY, rfl, lY⟩ := hY.form
    go_upto_region 4 with fail
    have g2 : Ext w1 (w1.alloc (.cells #[.slice a1 M.length c1, .slice a2 S.length c2] 26)) := inferInstance
    have x0_2 : (w1.alloc (.cells #[.slice a1 M.length c1, .slice a2 S.length c2] 26)).cell? ⟨w1.heap.size, 0, none⟩ = some (.slice a1 M.length c1) := by go_simp
    have x1_2 : (w1.alloc (.cells #[.slice a1 M.length c1, .slice a2 S.length c2] 26)).cell? ⟨w1.heap.size, 1, none⟩ = some (.slice a2 S.length c2) := by go_simp
    obtain ⟨pb, hpb⟩ : ∃ r, r = w1.heap.size := ⟨_, rfl⟩
    generalize w1.alloc (.cells #[.slice a1 M.length c1, .slice a2 S.length c2] 26) = w2 at *
    rw [← hpb] at x0_2 x1_2 ⊢
    replace hpb := hid hpb
    obtain ⟨ok, hok⟩ : ∃ b, b = schedB M S s X Y := ⟨_, rfl⟩
    obtain ⟨C, hC⟩ : ∃ b, b = schedR M S s X Y := ⟨_, rfl⟩
    obtain ⟨Lv, hLv⟩ : ∃ b, b = lcR M S s X := ⟨_, rfl⟩
    obtain ⟨ob, hob⟩ : ∃ b, b = startB M S s X := ⟨_, rfl⟩
    obtain ⟨Z, hZ⟩ : ∃ b, b = bestS M S s X := ⟨_, rfl⟩
    obtain ⟨W, hW⟩ : ∃ b, b = wfR M S s X := ⟨_, rfl⟩
    replace hok := hid hok
    replace hC := hid hC
    replace hLv := hid hLv
    replace hob := hid hob
    replace hZ := hid hZ
    replace hW := hid hW
    go_wp2_with fail
    refine (implSched_any (w0 := w1) (w := w2) hp' hs hX' hY').mono ?_
    rw [← hok.out, ← hC.out]
    rintro e w3 ⟨rfl, e3⟩
    have g3 : Ext w1 w3 := Ext.trans g2 e3
    have x0_3 := e3.cell x0_2
    have x1_3 := e3.cell x1_2
    clear x0_2 x1_2
    go_wp2_with fail
    refine (specSched_any (w0 := w1) (w := w3) hp' hs hX' hY').mono ?_
    rw [← hok.out, ← hC.out]
    rintro e w4 ⟨rfl, e4⟩
    have g4 : Ext w1 w4 := Ext.trans g3 e4
    have x0_4 := e4.cell x0_3
    have x1_4 := e4.cell x1_3
    clear x0_3 x1_3
    go_wp2_with fail
    refine (implLC_any (w0 := w1) (w := w4) hp' hs hX').mono ?_
    rw [← hLv.out, ← hob.out]
    rintro e w5 ⟨rfl, e5⟩
    have g5 : Ext w1 w5 := Ext.trans g4 e5
    have x0_5 := e5.cell x0_4
    have x1_5 := e5.cell x1_4
    clear x0_4 x1_4
    go_wp2_with fail
    refine (specLC_any (w0 := w1) (w := w5) hp' hs hX').mono ?_
    rw [← hLv.out, ← hob.out]
    rintro e w6 ⟨rfl, e6⟩
    have g6 : Ext w1 w6 := Ext.trans g5 e6
    have x0_6 := e6.cell x0_5
    have x1_6 := e6.cell x1_5
    clear x0_5 x1_5
    cases ob with
    | false =>
      have hok0 : ok = false := by
        cases ok with
        | false => rfl
        | true =>
          have h := (schedB_parts hok.out.symm).1
          rw [← hob.out] at h
          cases h
      subst hok0
      go_wp2_with fail
      go_ret
      exact ⟨rfl, Ext.trans e1 g6⟩
    | true =>
      have hst := hid hob.out.symm
      have hbs := hid (best_sched hst.out)
      go_wp2_with fail
      refine (implBest_any (w0 := w1) (w := w6) hp' hs hX').mono ?_
      rw [← hZ.out, ← hob.out]
      rintro e w7 ⟨d7, m7, rfl, own7, e7⟩
      have g7 : Ext w1 w7 := Ext.trans g6 e7
      have x0_7 := e7.cell x0_6
      have x1_7 := e7.cell x1_6
      clear x0_6 x1_6
      go_wp2_with fail
      refine (specBest_any (w0 := w1) (w := w7) hp' hs hX').mono ?_
      rw [← hZ.out, ← hob.out]
      rintro e w8 ⟨d8, m8, rfl, hi8, e8⟩
      have g8 : Ext w1 w8 := Ext.trans g7 e8
      have x0_8 := e8.cell x0_7
      have x1_8 := e8.cell x1_7
      clear x0_7 x1_7
      have own78 := own7.ext (w' := w8)
      have hi7 : IsInts w8 (.slice d7 Z.length m7) Z := own78.intsAs hi8
      clear own7 own78
      go_wp2_with fail
      refine (rInts_eq (w0 := w8) (w := w8) hi7 hi8).mono ?_
      rintro e w9 ⟨rfl, e9⟩
      have g9 : Ext w1 w9 := Ext.trans g8 e9
      have x0_9 := e9.cell x0_8
      have x1_9 := e9.cell x1_8
      clear x0_8 x1_8
      go_wp2_with fail
      refine (implWF_any (w0 := w1) (w := w9) hp' hs hX').mono ?_
      rw [← hW.out, ← hob.out]
      rintro e w10 ⟨d10, m10, rfl, own10, e10⟩
      have g10 : Ext w1 w10 := Ext.trans g9 e10
      have x0_10 := e10.cell x0_9
      have x1_10 := e10.cell x1_9
      clear x0_9 x1_9
      go_wp2_with fail
      refine (specWF_any (w0 := w1) (w := w10) hp' hs hX').mono ?_
      rw [← hW.out, ← hob.out]
      rintro e w11 ⟨d11, m11, rfl, hi11, e11⟩
      have g11 : Ext w1 w11 := Ext.trans g10 e11
      have x0_11 := e11.cell x0_10
      have x1_11 := e11.cell x1_10
      clear x0_10 x1_10
      have own101 := own10.ext (w' := w11)
      have hi10 : IsInts w11 (.slice d10 W.length m10) W := own101.intsAs hi11
      clear own10 own101
      go_wp2_with fail
      refine (rInts_eq (w0 := w11) (w := w11) hi10 hi11).mono ?_
      rintro e w12 ⟨rfl, e12⟩
      have g12 : Ext w1 w12 := Ext.trans g11 e12
      have x0_12 := e12.cell x0_11
      have x1_12 := e12.cell x1_11
      clear x0_11 x1_11
      have f812 : Ext w8 w12 := Ext.trans e9 (Ext.trans e10 (Ext.trans e11 e12))
      have hi12 := hi7.ext (w' := w12)
      go_wp2_with fail
      refine (implSched_any (w0 := w12) (w := w12) hp'.ext hs hX'.ext hi12).mono ?_
      rw [show schedR M S s X Z = Lv by rw [hLv.out, hZ.out]; exact hbs.out.2, show schedB M S s X Z = true by rw [hZ.out]; exact hbs.out.1]
      rintro e w13 ⟨rfl, e13⟩
      have g13 : Ext w1 w13 := Ext.trans g12 e13
      have x0_13 := e13.cell x0_12
      have x1_13 := e13.cell x1_12
      clear x0_12 x1_12
      have hWl : W.length = M.length ∧ 0 < M.length := by
        have h := work_ok hst.out (Nat.le_refl X.length)
        have hb := probB_len (startB_prob hst.out)
        have e : W = workTo M S (row M s.toNat) X X.length := by rw [hW.out, wfR, if_pos hst.out]; rfl
        rw [e]
        exact ⟨h.1, by omega⟩
      replace hWl := hid hWl
      have hWn := hid (show ∀ t u : Nat, t < M.length → u < M.length → nth W t ≤ nth W u + cell M u t from fun t u ht hu => by
        have e : W = workTo M S (row M s.toNat) X X.length := by rw [hW.out, wfR, if_pos hst.out]; rfl
        rw [e]
        exact work_near hst.out (Nat.le_refl _) ht hu)
      have hWb := hid (show ∀ t, t < M.length → 0 ≤ nth W t ∧ nth W t ≤ 99 + 119 * (X.length : Int) from fun t ht => by
        have e : W = workTo M S (row M s.toNat) X X.length := by rw [hW.out, wfR, if_pos hst.out]; rfl
        rw [e]
        exact (work_ok hst.out (Nat.le_refl X.length)).2 t ht)
      have hWm := hid (show leastL W = Lv by rw [hLv.out, hW.out, wfR, if_pos hst.out, lcR, if_pos hst.out]; rfl)
      have hlow : ok = true → Lv ≤ C := fun h => by
        rw [hLv.out, hC.out]
        exact sched_least (by rw [← hok.out]; exact h)
      have f1113 : Ext w11 w13 := Ext.trans e12 e13
      have hi13 := hi10.ext (w' := w13)
      go_upto_region 23 with fail
      go_cut [166] (fun q wx => q = .bool false ∧ wx = w13)
      case first =>
        cases ok with
        | true =>
          have hLC := hlow rfl
          go_wp2_with fail
          go_meet
          case rel => exact ⟨by rw [decide_eq_false (show ¬ C < Lv by omega)], rfl⟩
        | false =>
          go_wp2_with fail
          go_meet
          case rel => exact ⟨rfl, rfl⟩
      case rest =>
        obtain ⟨rfl, rfl⟩ := hcut
        obtain ⟨w13, rfl⟩ : ∃ y : World, y = wc := ⟨_, rfl⟩
        clear hlow
        have hWl2 := hWl.out
        obtain ⟨bw, ow, hd10, hc0⟩ := hi13.at (w' := w13) (k := 0) (by omega)
        subst hd10
        rw [Nat.add_zero] at hc0
        have hW4 : W.length ≤ 4 := by have := probB_len (startB_prob hst.out); omega
        have hWM := hid hWl.out.1
        have hW0 : 0 < W.length := by omega
        clear hWl2
        go_wp2_with fail
        go_loopw [25, 26] (fun lo i wr => ∃ k : Nat, k ≤ W.length ∧ i = .int .i64 k ∧ ∃ low : Int, lo = .int .i64 low ∧ (∃ t, t < W.length ∧ low = nth W t) ∧ (∀ t, t < k → low ≤ nth W t) ∧ Ext w13 wr) (fun _ i _ => W.length - (intOf i).toNat)
        case atStart => exact ⟨0, by omega, rfl, nth W 0, rfl, ⟨0, hW0, rfl⟩, by omega, Ext.refl _⟩
        case round =>
          obtain ⟨k, hk, rfl, low, rfl, hlm, hll, hxr⟩ := hrel
          obtain ⟨wq, rfl⟩ : ∃ y : World, y = wr := ⟨_, rfl⟩
          replace hlm := hid hlm
          replace hll := hid hll
          have z0 := hxr.cell x0_13
          have z1 := hxr.cell x1_13
          by_cases hkl : k < W.length
          · obtain ⟨b', o', hb', hck⟩ := hi13.at (w' := wq) (k := k) hkl
            cases hb'
            go_upto_if 181 with fail
            go_cut [25] (fun q wx => ∃ l2 : Int, q = .int .i64 l2 ∧ (∃ t, t < W.length ∧ l2 = nth W t) ∧ (∀ t, t < k + 1 → l2 ≤ nth W t) ∧ wx = wq)
            case first =>
              by_cases hlt : nth W k < low
              · have hll2 := hid (show ∀ t, t < k + 1 → nth W k ≤ nth W t from fun t ht => by
                  by_cases e : t = k
                  · rw [e]; omega
                  · have := hll.out t (by omega); omega)
                go_wp2_with fail
                go_meet
                case rel => exact ⟨nth W k, rfl, ⟨k, hkl, rfl⟩, hll2.out, rfl⟩
              · have hll2 := hid (show ∀ t, t < k + 1 → low ≤ nth W t from fun t ht => by
                  by_cases e : t = k
                  · rw [e]; omega
                  · have := hll.out t (by omega); omega)
                go_wp2_with fail
                go_meet
                case rel => exact ⟨low, rfl, hlm.out, hll2.out, rfl⟩
            case rest =>
              obtain ⟨l2, rfl, hlm2, hll2, rfl⟩ := hcut
              obtain ⟨wq, rfl⟩ : ∃ y : World, y = wc := ⟨_, rfl⟩
              replace hlm2 := hid hlm2
              replace hll2 := hid hll2
              go_wp2_with fail
              go_loopw [27] (fun i wr => ∃ u : Nat, u ≤ W.length ∧ i = .int .i64 u ∧ Ext wq wr) (fun i _ => W.length - (intOf i).toNat)
              case atStart => exact ⟨0, by omega, rfl, Ext.refl _⟩
              case round =>
                obtain ⟨u, hu, rfl, hyr⟩ := hrel
                obtain ⟨wp, rfl⟩ : ∃ y : World, y = wr := ⟨_, rfl⟩
                by_cases hul : u < W.length
                · have gp : Ext w13 wp := Ext.trans hxr hyr
                  have gp1 : Ext w1 wp := Ext.trans g13 gp
                  have y0 := hyr.cell z0
                  have yk := hyr.cell hck
                  obtain ⟨b', o', hb', yu⟩ := hi13.at (w' := wp) (k := u) hul
                  cases hb'
                  have hWMo := hWM.out
                  obtain ⟨bm, om, dm, mm, hma, hmc, hmi, hml⟩ := hM.atx (w' := wp) (k := u) (by omega)
                  subst hma
                  have hrlen := hid (probB_sq (startB_prob hst.out) (x := u) (by omega))
                  obtain ⟨br, og, hdr, hrc⟩ := hmi.at (w' := wp) (k := k) (by rw [hrlen.out]; omega)
                  subst hdr
                  have hrc2 : wp.cell? ⟨br, og + k, none⟩ = some (.int .i64 (cell M u k)) := hrc
                  have hnw := hWn.out k u (by omega) (by omega)
                  have hb1 := hWb.out u (by omega)
                  have hb2 := probB_move (startB_prob hst.out) (x := u) (y := k) (by omega) (by omega)
                  obtain ⟨mc, hmcd⟩ : ∃ z, z = cell M u k := ⟨_, rfl⟩
                  rw [← hmcd] at hrc2 hnw hb2
                  rw [hrlen.out] at hmc
                  have hkM : k < M.length := by omega
                  have huM : u < M.length := by omega
                  clear hrc hmi hmcd hWMo
                  go_wp2_with (go_quiet (fail))
                  go_roundw
                  case rel => exact ⟨u + 1, by omega, by go_num, Ext.trans hyr inferInstance⟩
                  case measure => simp [intOf]; omega
                · go_wp2_with fail
                  go_roundw
                  case rel => exact ⟨k + 1, by omega, by go_num, l2, rfl, hlm2.out, hll2.out, Ext.trans hxr hyr⟩
                  case measure => simp [intOf]; omega
          · have hlL : low = Lv := by
              rw [← hWm.out]
              obtain ⟨⟨c, hc, e1⟩, h2⟩ := leastL_min (w := W) (by intro h; rw [h] at hW0; simp at hW0)
              obtain ⟨j, hj, rfl⟩ := mem_iff_nth.1 hc
              obtain ⟨t, ht, e2⟩ := hlm.out
              have h3 := hll.out j (by omega)
              have h4 : leastL W ≤ nth W t := h2 _ (nth_mem ht)
              have e1' : leastL W = nth W j := e1
              omega
            subst hlL
            by_cases hX60 : X.length = 60
            · replace hX60 := hX60
              go_wp2_with fail
              go_ret
              exact ⟨rfl, Ext.trans e1 (Ext.trans g13 hxr)⟩
            · have hXlt : X.length < 60 := by have := startB_len hst.out; omega
              have hx60 : ((X.length : Int) == 60) = false := by simp; omega
              go_wp2_with fail
              go_loopw [28] (fun i wr => ∃ r : Nat, r ≤ S.length ∧ i = .int .i64 r ∧ Ext wq wr) (fun i _ => S.length - (intOf i).toNat)
              case atStart => exact ⟨0, by omega, rfl, Ext.refl _⟩
              case round =>
                obtain ⟨r, hr, rfl, hyr⟩ := hrel
                obtain ⟨wp, rfl⟩ : ∃ y : World, y = wr := ⟨_, rfl⟩
                have gp : Ext w13 wp := Ext.trans hxr hyr
                have y0 := hyr.cell z0
                have y1 := hyr.cell z1
                by_cases hrl : r < S.length
                · have hwt := hid (work_takes hst.out (q := (r : Int)) (by omega))
                  have hsn := hid (startB_snoc hst.out (q := (r : Int)) (by omega) hXlt)
                  have hri : I64 (r : Int) := by unfold I64; omega
                  have hpp := hp'.ext (w' := w13)
                  go_wp2_with fail
                  refine (implNW_any (w0 := w13) (w := wp) hpp hi13 hri).mono ?_
                  rw [show nwB M S W (r : Int) = true by rw [hW.out]; exact hwt.out.1]
                  obtain ⟨N, hN⟩ : ∃ b, b = nwR M S W (r : Int) := ⟨_, rfl⟩
                  rw [← hN]
                  replace hN := hid hN
                  rintro e w14 ⟨d14, m14, rfl, own14, e14⟩
                  have y0_14 := e14.cell y0
                  have y1_14 := e14.cell y1
                  have g14 : Ext w1 w14 := Ext.trans g13 (Ext.trans gp e14)
                  have gq : Ext wq w14 := Ext.trans hyr e14
                  have hNwf := hid (show wfR M S s (X ++ [(r : Int)]) = N by rw [hN.out, hW.out, hwt.out.2, wfR, if_pos hsn.out])
                  have hNi := hid (show N.length ≤ 4 ∧ ∀ x ∈ N, I64 x by
                    have h := work_ok hsn.out (Nat.le_refl (X ++ [(r : Int)]).length)
                    have e : N = workTo M S (row M s.toNat) (X ++ [(r : Int)]) (X ++ [(r : Int)]).length := by rw [← hNwf.out, wfR, if_pos hsn.out]; rfl
                    rw [e]
                    have hb := probB_len (startB_prob hst.out)
                    refine ⟨by rw [h.1]; omega, fun x hx => ?_⟩
                    obtain ⟨q, hq, rfl⟩ := mem_iff_nth.1 hx
                    have h2 := h.2 q (by rw [← h.1]; exact hq)
                    have hlen : (X ++ [(r : Int)]).length = X.length + 1 := by simp
                    unfold I64
                    omega)
                  have hXri := hid (show ∀ x ∈ X ++ [(r : Int)], I64 x from fun x hx => by
                    rcases List.mem_append.1 hx with h | h
                    · obtain ⟨q, hq, rfl⟩ := mem_iff_nth.1 h
                      exact hX'.i64 hq
                    · rw [List.mem_singleton] at h; rw [h]; exact hri)
                  obtain ⟨XR, hXR⟩ : ∃ l, l = X ++ [(r : Int)] := ⟨_, rfl⟩
                  rw [← hXR] at hXri hNwf hsn
                  have hXRl := hid (show XR.length = X.length + 1 by rw [hXR]; simp)
                  replace hXR := hid hXR
                  go_upto_region 44 with fail
                  refine wp_region_held_drew (S := fun w' => w'.cell? ⟨pb, 0, none⟩ = some (.slice a1 M.length c1) ∧ w'.cell? ⟨pb, 1, none⟩ = some (.slice a2 S.length c2)) (by kernel_rfl) ⟨(inferInstance : Ext w14 w14.drew).cell y0_14, (inferInstance : Ext w14 w14.drew).cell y1_14⟩ (fun hHeld0 => ?_)
                  have gd : Ext w14 w14.drew := inferInstance
                  generalize w14.drew = wd at *
                  have hfc := hid (show ∀ u, Below wd.heap.size wd u → u.cell? ⟨pb, 0, none⟩ = some (.slice a1 M.length c1) ∧ u.cell? ⟨pb, 1, none⟩ = some (.slice a2 S.length c2) from fun u h => by
                    have e : Ext wd u := ⟨h⟩
                    exact ⟨e.cell (gd.cell y0_14), e.cell (gd.cell y1_14)⟩)
                  have hn0 := Own.nil wd wd.heap.size
                  have hXd : IsInts wd (.slice aX X.length cX) X := by
                    have : Ext w1 wd := Ext.trans g14 gd
                    exact hX'.ext
                  obtain ⟨B, hB⟩ : ∃ b, b = wd.heap.size := ⟨_, rfl⟩
                  rw [← hB] at hn0 hfc
                  have hl0 : B ≤ wd.heap.size := Nat.le_of_eq hB
                  have hEx := hid (show ∀ u, Below B wd u → Ext wd u from fun u h => ⟨by rw [← hB]; exact h⟩)
                  replace hB := hid hB
                  refine wpAnyH_take (i := 0) (v := .agg #[.slice a1 M.length c1, .slice a2 S.length c2]) rfl (by kernel_rfl) (by kernel_rfl) (by kernel_rfl) (fun _ _ _ h => h) (Or.inl ⟨by rfl, by intro wx hx; obtain ⟨_, _⟩ := hx; go_simp⟩) (by assumption) ?_
                  try simp only [List.getElem_toArray, List.getElem_cons_zero, Act.put, List.setIfInBounds_toArray, List.set_cons_zero, List.set_cons_succ]
                  refine wpAnyH_take (i := 1) (v := .int .i64 s) rfl (by kernel_rfl) (by kernel_rfl) (by kernel_rfl) (fun _ _ _ h => h) (Or.inl ⟨by rfl, by intro wx hx; go_simp⟩) (by assumption) ?_
                  try simp only [List.getElem_toArray, List.getElem_cons_succ, List.getElem_cons_zero, Act.put, List.setIfInBounds_toArray, List.set_cons_zero, List.set_cons_succ]
                  refine wpAnyH_take (i := 3) (v := .slice aX X.length cX) rfl (by kernel_rfl) (by kernel_rfl) (by kernel_rfl) (fun _ _ _ h => h) (Or.inl ⟨by rfl, by intro wx hx; go_simp⟩) (by assumption) ?_
                  try simp only [List.getElem_toArray, List.getElem_cons_succ, List.getElem_cons_zero, Act.put, List.setIfInBounds_toArray, List.set_cons_zero, List.set_cons_succ]
                  refine wpAnyH_take (i := 5) (v := .int .i64 r) rfl (by kernel_rfl) (by kernel_rfl) (by kernel_rfl) (fun _ _ _ h => h) (Or.inl ⟨by rfl, by intro wx hx; go_simp⟩) (by assumption) ?_
                  try simp only [List.getElem_toArray, List.getElem_cons_succ, List.getElem_cons_zero, Act.put, List.setIfInBounds_toArray, List.set_cons_zero, List.set_cons_succ]
                  refine wpAnyH_ready (rs := [2, 6]) (by kernel_rfl) (by simp) ?_
                  refine AllReadyH.cons rfl (fun K hK => ?_) (AllReadyH.cons rfl (fun K hK => ?_) AllReadyH.nil)
                  · go_simp
                    have oE := hn0.lit 3 1 0 #[] hl0 (by unfold maxLen; omega) rfl
                    have bE : Below B wd (wd.alloc (.cells #[] 3)) := (Below.refl B wd).alloc hl0 _
                    have hE0 := hfc.out _ bE
                    have lE : B ≤ (wd.alloc (.cells #[] 3)).heap.size := Nat.le_trans hl0 bE.size
                    refine hK.out _ _ hE0 (fun _ => ?_)
                    clear hK K
                    try simp only [List.getElem_toArray, List.getElem_cons_succ, List.getElem_cons_zero, Act.put, List.setIfInBounds_toArray, List.set_cons_zero, List.set_cons_succ]
                    generalize wd.alloc (.cells #[] 3) = wE at *
                    generalize (some (⟨wd.heap.size, 0, none⟩ : Addr)) = dE at *
                    have hXE : IsInts wE (.slice aX X.length cX) X := by
                      have := hEx.out _ bE
                      exact hXd.ext
                    refine wpAnyH_ready (rs := [4, 6]) (by kernel_rfl) (by simp) ?_
                    refine AllReadyH.cons rfl (fun K hK => ?_) (AllReadyH.cons rfl (fun K hK => ?_) AllReadyH.nil)
                    · refine step_appendInts rfl (.tmp 233) (.tmp 234) 29 rfl elemInt rfl oE lE rfl hXE (by omega) ?_
                      intro v4 w4 ho4 hb4
                      have o4 : Own w4 B (intRowOf 3 v4 X :: []) := by simpa [intRowOf] using ho4
                      obtain ⟨vd4, vm4, hv4⟩ := ow_ints o4
                      subst hv4
                      have b4 := bE.trans hb4
                      have l4 := Nat.le_trans lE hb4.size
                      clear ho4
                      refine hK.out _ _ (hfc.out _ b4) (fun _ => ?_)
                      clear hK K
                      try simp only [List.getElem_toArray, List.getElem_cons_succ, List.getElem_cons_zero, Act.put, List.setIfInBounds_toArray, List.set_cons_zero, List.set_cons_succ]
                      have o6 : Own (w4.alloc (.cells #[.int .i64 (r : Int)] 3)) B (⟨3, 1, .slice (some ⟨w4.heap.size, 0, none⟩) 1 1, 1, [.int .i64 (r : Int)]⟩ :: (intRowOf 3 (.slice vd4 X.length vm4) X :: [])) := o4.lit 3 1 1 #[.int .i64 (r : Int)] l4 (by unfold maxLen; omega) rfl
                      have b6 : Below B wd (w4.alloc (.cells #[.int .i64 (r : Int)] 3)) := b4.alloc l4 _
                      have l6 : B ≤ (w4.alloc (.cells #[.int .i64 (r : Int)] 3)).heap.size := Nat.le_trans hl0 b6.size
                      refine wpAnyH_ready (rs := [6]) (by kernel_rfl) (by simp) ?_
                      refine AllReadyH.cons rfl (fun K hK => ?_) AllReadyH.nil
                      go_simp
                      refine hK.out _ _ (hfc.out _ b6) (fun _ => ?_)
                      clear hK K
                      try simp only [List.getElem_toArray, List.getElem_cons_succ, List.getElem_cons_zero, Act.put, List.setIfInBounds_toArray, List.set_cons_zero, List.set_cons_succ]
                      generalize w4.alloc (.cells #[.int .i64 (r : Int)] 3) = w6 at *
                      generalize w4.heap.size = gl at *
                      refine wpAnyH_ready (rs := [7]) (by kernel_rfl) (by simp) ?_
                      refine AllReadyH.cons rfl (fun K hK => ?_) AllReadyH.nil
                      have c6 : w6.cell? ⟨gl, 0, none⟩ = some (.int .i64 (r : Int)) := ow_cell o6 (.head _) (j := 0) (by omega)
                      refine step_append1z rfl (.tmp 235) (.tmp 237) 29 rfl elemInt rfl (o6.perm (List.Perm.swap _ _ _)) l6 (us := [.int .i64 (r : Int)]) rfl rfl ?_ (by intro u hu; simp at hu; subst hu; rfl) (by omega) (by omega) ?_
                      · intro jj u hj
                        match jj, hj with
                        | 0, hj => simp at hj; subst hj; exact c6
                      intro v7 w7 ho7 hb7
                      have o7 : Own w7 B (intRowOf 3 v7 XR :: (⟨3, 1, .slice (some ⟨gl, 0, none⟩) 1 1, 1, [.int .i64 (r : Int)]⟩ :: [])) := by
                        unfold intRowOf
                        rw [hXR.out, List.length_append, List.map_append]
                        exact ho7
                      obtain ⟨vd7, vm7, hv7⟩ := ow_ints o7
                      subst hv7
                      have b7 := b6.trans hb7
                      have l7 := Nat.le_trans l6 hb7.size
                      have hXr : IsInts w7 (.slice vd7 XR.length vm7) XR := o7.reads (by unfold Short; rw [hXRl.out]; omega) hXri.out
                      clear ho7
                      refine hK.out _ _ (hfc.out _ b7) (fun _ => ?_)
                      clear hK K
                      try simp only [List.getElem_toArray, List.getElem_cons_succ, List.getElem_cons_zero, Act.put, List.setIfInBounds_toArray, List.set_cons_zero, List.set_cons_succ]
                      have e7 : Ext wd w7 := hEx.out _ b7
                      have e17 : Ext w1 w7 := Ext.trans g14 (Ext.trans gd e7)
                      refine wpAnyH_ready (rs := [8]) (by kernel_rfl) (by simp) ?_
                      refine AllReadyH.cons rfl (fun K hK => ?_) AllReadyH.nil
                      go_simp
                      go_at_call 20
                      with_reducible refine (implWF_any (w0 := w7) (w := w7) hp'.ext hs hXr).mono ?_
                      rw [hsn.out, hNwf.out]
                      rintro e w8 ⟨d8, m8, rfl, own8, e8⟩
                      have b8 : Below B wd w8 := b7.trans (e8.below.mono l7)
                      have e14 : Ext w14 w8 := Ext.trans gd (Ext.trans e7 e8)
                      go_wp2_with fail
                      refine hK.out _ _ (hfc.out _ b8) (fun _ => ?_)
                      clear hK K
                      try simp only [List.getElem_toArray, List.getElem_cons_succ, List.getElem_cons_zero, Act.put, List.setIfInBounds_toArray, List.set_cons_zero, List.set_cons_succ]
                      refine wpAnyH_take (i := 9) (v := .tuple #[.slice d8 N.length m8, .bool true]) rfl (by kernel_rfl) (by kernel_rfl) (by kernel_rfl) (fun _ _ _ h => h) (Or.inl ⟨by rfl, by intro wx hx; go_simp⟩) (by assumption) ?_
                      try simp only [List.getElem_toArray, List.getElem_cons_succ, List.getElem_cons_zero, Act.put, List.setIfInBounds_toArray, List.set_cons_zero, List.set_cons_succ]
                      refine wpAnyH_take (i := 10) (v := .slice d8 N.length m8) rfl (by kernel_rfl) (by kernel_rfl) (by kernel_rfl) (fun _ _ _ h => h) (Or.inl ⟨by rfl, by intro wx hx; go_simp⟩) (by assumption) ?_
                      try simp only [List.getElem_toArray, List.getElem_cons_succ, List.getElem_cons_zero, Act.put, List.setIfInBounds_toArray, List.set_cons_zero, List.set_cons_succ]
                      refine wpAnyH_take (i := 11) (v := .bool true) rfl (by kernel_rfl) (by kernel_rfl) (by kernel_rfl) (fun _ _ _ h => h) (Or.inl ⟨by rfl, by intro wx hx; go_simp⟩) (by assumption) ?_
                      try simp only [List.getElem_toArray, List.getElem_cons_succ, List.getElem_cons_zero, Act.put, List.setIfInBounds_toArray, List.set_cons_zero, List.set_cons_succ]
                      refine wpAnyH_take (i := 12) (v := .slice d8 N.length m8) rfl (by kernel_rfl) (by kernel_rfl) (by kernel_rfl) (fun _ _ _ h => h) (Or.inl ⟨by rfl, by intro wx hx; go_simp⟩) (by assumption) ?_
                      try simp only [List.getElem_toArray, List.getElem_cons_succ, List.getElem_cons_zero, Act.put, List.setIfInBounds_toArray, List.set_cons_zero, List.set_cons_succ]
                      refine wpAnyH_take (i := 13) (v := .bool true) rfl (by kernel_rfl) (by kernel_rfl) (by kernel_rfl) (fun _ _ _ h => h) (Or.inl ⟨by rfl, by intro wx hx; go_simp⟩) (by assumption) ?_
                      try simp only [List.getElem_toArray, List.getElem_cons_succ, List.getElem_cons_zero, Act.put, List.setIfInBounds_toArray, List.set_cons_zero, List.set_cons_succ]
                      refine wpAnyH_done (by kernel_rfl) ?_ _
                      have hN8 : IsInts w8 (.slice d8 N.length m8) N := own8.reads (by unfold Short; have := hNi.out.1; omega) hNi.out.2
                      have own14' := own14.ext (w' := w8)
                      have hN14 : IsInts w8 (.slice d14 N.length m14) N := own14'.reads (by unfold Short; have := hNi.out.1; omega) hNi.out.2
                      clear own14'
                      go_wp2_with fail
                      refine (rInts_eq (w0 := w8) (w := w8) hN14 hN8).mono ?_
                      rintro e w9 ⟨rfl, e9⟩
                      go_wp2_with fail
                      go_roundw
                      case rel => exact ⟨r + 1, by omega, by go_num, Ext.trans gq (Ext.trans e14 e9)⟩
                      case measure => simp [intOf]; omega
                    · have o5 : Own (wE.alloc (.cells #[.int .i64 (r : Int)] 3)) B (⟨3, 1, .slice (some ⟨wE.heap.size, 0, none⟩) 1 1, 1, [.int .i64 (r : Int)]⟩ :: _) := oE.lit 3 1 1 #[.int .i64 (r : Int)] lE (by unfold maxLen; omega) rfl
                      have b5 : Below B wd (wE.alloc (.cells #[.int .i64 (r : Int)] 3)) := bE.alloc lE _
                      have l5 : B ≤ (wE.alloc (.cells #[.int .i64 (r : Int)] 3)).heap.size := Nat.le_trans hl0 b5.size
                      go_simp
                      refine hK.out _ _ (hfc.out _ b5) (fun _ => ?_)
                      clear hK K
                      try simp only [List.getElem_toArray, List.getElem_cons_succ, List.getElem_cons_zero, Act.put, List.setIfInBounds_toArray, List.set_cons_zero, List.set_cons_succ]
                      generalize wE.alloc (.cells #[.int .i64 (r : Int)] 3) = w5 at *
                      generalize wE.heap.size = gl at *
                      have hX5 : IsInts w5 (.slice aX X.length cX) X := by
                        have := hEx.out _ b5
                        exact hXd.ext
                      have o5s := o5.perm (List.Perm.swap _ _ _)
                      refine wpAnyH_ready (rs := [4]) (by kernel_rfl) (by simp) ?_
                      refine AllReadyH.cons rfl (fun K hK => ?_) AllReadyH.nil
                      refine step_appendInts rfl (.tmp 233) (.tmp 234) 29 rfl elemInt rfl o5s l5 rfl hX5 (by omega) ?_
                      intro v4 w6 ho4 hb4
                      have o4 : Own w6 B (intRowOf 3 v4 X :: (⟨3, 1, .slice (some ⟨gl, 0, none⟩) 1 1, 1, [.int .i64 (r : Int)]⟩ :: [])) := by simpa [intRowOf] using ho4
                      obtain ⟨vd4, vm4, hv4⟩ := ow_ints o4
                      subst hv4
                      have b6 := b5.trans hb4
                      have l6 := Nat.le_trans l5 hb4.size
                      have o6 := o4.perm (List.Perm.swap _ _ _)
                      clear ho4 o5s
                      refine hK.out _ _ (hfc.out _ b6) (fun _ => ?_)
                      clear hK K
                      try simp only [List.getElem_toArray, List.getElem_cons_succ, List.getElem_cons_zero, Act.put, List.setIfInBounds_toArray, List.set_cons_zero, List.set_cons_succ]
                      refine wpAnyH_ready (rs := [7]) (by kernel_rfl) (by simp) ?_
                      refine AllReadyH.cons rfl (fun K hK => ?_) AllReadyH.nil
                      have c6 : w6.cell? ⟨gl, 0, none⟩ = some (.int .i64 (r : Int)) := ow_cell o6 (.head _) (j := 0) (by omega)
                      refine step_append1z rfl (.tmp 235) (.tmp 237) 29 rfl elemInt rfl (o6.perm (List.Perm.swap _ _ _)) l6 (us := [.int .i64 (r : Int)]) rfl rfl ?_ (by intro u hu; simp at hu; subst hu; rfl) (by omega) (by omega) ?_
                      · intro jj u hj
                        match jj, hj with
                        | 0, hj => simp at hj; subst hj; exact c6
                      intro v7 w7 ho7 hb7
                      have o7 : Own w7 B (intRowOf 3 v7 XR :: (⟨3, 1, .slice (some ⟨gl, 0, none⟩) 1 1, 1, [.int .i64 (r : Int)]⟩ :: [])) := by
                        unfold intRowOf
                        rw [hXR.out, List.length_append, List.map_append]
                        exact ho7
                      obtain ⟨vd7, vm7, hv7⟩ := ow_ints o7
                      subst hv7
                      have b7 := b6.trans hb7
                      have l7 := Nat.le_trans l6 hb7.size
                      have hXr : IsInts w7 (.slice vd7 XR.length vm7) XR := o7.reads (by unfold Short; rw [hXRl.out]; omega) hXri.out
                      clear ho7
                      refine hK.out _ _ (hfc.out _ b7) (fun _ => ?_)
                      clear hK K
                      try simp only [List.getElem_toArray, List.getElem_cons_succ, List.getElem_cons_zero, Act.put, List.setIfInBounds_toArray, List.set_cons_zero, List.set_cons_succ]
                      have e7 : Ext wd w7 := hEx.out _ b7
                      have e17 : Ext w1 w7 := Ext.trans g14 (Ext.trans gd e7)
                      refine wpAnyH_ready (rs := [8]) (by kernel_rfl) (by simp) ?_
                      refine AllReadyH.cons rfl (fun K hK => ?_) AllReadyH.nil
                      go_simp
                      go_at_call 20
                      with_reducible refine (implWF_any (w0 := w7) (w := w7) hp'.ext hs hXr).mono ?_
                      rw [hsn.out, hNwf.out]
                      rintro e w8 ⟨d8, m8, rfl, own8, e8⟩
                      have b8 : Below B wd w8 := b7.trans (e8.below.mono l7)
                      have e14 : Ext w14 w8 := Ext.trans gd (Ext.trans e7 e8)
                      go_wp2_with fail
                      refine hK.out _ _ (hfc.out _ b8) (fun _ => ?_)
                      clear hK K
                      try simp only [List.getElem_toArray, List.getElem_cons_succ, List.getElem_cons_zero, Act.put, List.setIfInBounds_toArray, List.set_cons_zero, List.set_cons_succ]
                      refine wpAnyH_take (i := 9) (v := .tuple #[.slice d8 N.length m8, .bool true]) rfl (by kernel_rfl) (by kernel_rfl) (by kernel_rfl) (fun _ _ _ h => h) (Or.inl ⟨by rfl, by intro wx hx; go_simp⟩) (by assumption) ?_
                      try simp only [List.getElem_toArray, List.getElem_cons_succ, List.getElem_cons_zero, Act.put, List.setIfInBounds_toArray, List.set_cons_zero, List.set_cons_succ]
                      refine wpAnyH_take (i := 10) (v := .slice d8 N.length m8) rfl (by kernel_rfl) (by kernel_rfl) (by kernel_rfl) (fun _ _ _ h => h) (Or.inl ⟨by rfl, by intro wx hx; go_simp⟩) (by assumption) ?_
                      try simp only [List.getElem_toArray, List.getElem_cons_succ, List.getElem_cons_zero, Act.put, List.setIfInBounds_toArray, List.set_cons_zero, List.set_cons_succ]
                      refine wpAnyH_take (i := 11) (v := .bool true) rfl (by kernel_rfl) (by kernel_rfl) (by kernel_rfl) (fun _ _ _ h => h) (Or.inl ⟨by rfl, by intro wx hx; go_simp⟩) (by assumption) ?_
                      try simp only [List.getElem_toArray, List.getElem_cons_succ, List.getElem_cons_zero, Act.put, List.setIfInBounds_toArray, List.set_cons_zero, List.set_cons_succ]
                      refine wpAnyH_take (i := 12) (v := .slice d8 N.length m8) rfl (by kernel_rfl) (by kernel_rfl) (by kernel_rfl) (fun _ _ _ h => h) (Or.inl ⟨by rfl, by intro wx hx; go_simp⟩) (by assumption) ?_
                      try simp only [List.getElem_toArray, List.getElem_cons_succ, List.getElem_cons_zero, Act.put, List.setIfInBounds_toArray, List.set_cons_zero, List.set_cons_succ]
                      refine wpAnyH_take (i := 13) (v := .bool true) rfl (by kernel_rfl) (by kernel_rfl) (by kernel_rfl) (fun _ _ _ h => h) (Or.inl ⟨by rfl, by intro wx hx; go_simp⟩) (by assumption) ?_
                      try simp only [List.getElem_toArray, List.getElem_cons_succ, List.getElem_cons_zero, Act.put, List.setIfInBounds_toArray, List.set_cons_zero, List.set_cons_succ]
                      refine wpAnyH_done (by kernel_rfl) ?_ _
                      have hN8 : IsInts w8 (.slice d8 N.length m8) N := own8.reads (by unfold Short; have := hNi.out.1; omega) hNi.out.2
                      have own14' := own14.ext (w' := w8)
                      have hN14 : IsInts w8 (.slice d14 N.length m14) N := own14'.reads (by unfold Short; have := hNi.out.1; omega) hNi.out.2
                      clear own14'
                      go_wp2_with fail
                      refine (rInts_eq (w0 := w8) (w := w8) hN14 hN8).mono ?_
                      rintro e w9 ⟨rfl, e9⟩
                      go_wp2_with fail
                      go_roundw
                      case rel => exact ⟨r + 1, by omega, by go_num, Ext.trans gq (Ext.trans e14 e9)⟩
                      case measure => simp [intOf]; omega
                  · have o0 : Own (wd.alloc (.cells #[.int .i64 (r : Int)] 3)) B (⟨3, 1, .slice (some ⟨wd.heap.size, 0, none⟩) 1 1, 1, [.int .i64 (r : Int)]⟩ :: []) := hn0.lit 3 1 1 #[.int .i64 (r : Int)] hl0 (by unfold maxLen; omega) rfl
                    have b0 : Below B wd (wd.alloc (.cells #[.int .i64 (r : Int)] 3)) := (Below.refl B wd).alloc hl0 _
                    have l0 : B ≤ (wd.alloc (.cells #[.int .i64 (r : Int)] 3)).heap.size := Nat.le_trans hl0 b0.size
                    go_simp
                    refine hK.out _ _ (hfc.out _ b0) (fun _ => ?_)
                    clear hK K
                    try simp only [List.getElem_toArray, List.getElem_cons_succ, List.getElem_cons_zero, Act.put, List.setIfInBounds_toArray, List.set_cons_zero, List.set_cons_succ]
                    generalize wd.alloc (.cells #[.int .i64 (r : Int)] 3) = w3b at *
                    generalize wd.heap.size = gl at *
                    have o5s := o0.lit 3 1 0 #[] l0 (by unfold maxLen; omega) rfl
                    have b5 : Below B wd (w3b.alloc (.cells #[] 3)) := b0.alloc l0 _
                    have l5 : B ≤ (w3b.alloc (.cells #[] 3)).heap.size := Nat.le_trans l0 ((Below.refl B w3b).alloc l0 _).size
                    refine wpAnyH_ready (rs := [2]) (by kernel_rfl) (by simp) ?_
                    refine AllReadyH.cons rfl (fun K hK => ?_) AllReadyH.nil
                    go_simp
                    refine hK.out _ _ (hfc.out _ b5) (fun _ => ?_)
                    clear hK K
                    try simp only [List.getElem_toArray, List.getElem_cons_succ, List.getElem_cons_zero, Act.put, List.setIfInBounds_toArray, List.set_cons_zero, List.set_cons_succ]
                    generalize w3b.alloc (.cells #[] 3) = w5 at *
                    generalize (some (⟨w3b.heap.size, 0, none⟩ : Addr)) = dE at *
                    have hX5 : IsInts w5 (.slice aX X.length cX) X := by
                      have := hEx.out _ b5
                      exact hXd.ext
                    refine wpAnyH_ready (rs := [4]) (by kernel_rfl) (by simp) ?_
                    refine AllReadyH.cons rfl (fun K hK => ?_) AllReadyH.nil
                    refine step_appendInts rfl (.tmp 233) (.tmp 234) 29 rfl elemInt rfl o5s l5 rfl hX5 (by omega) ?_
                    intro v4 w6 ho4 hb4
                    have o4 : Own w6 B (intRowOf 3 v4 X :: (⟨3, 1, .slice (some ⟨gl, 0, none⟩) 1 1, 1, [.int .i64 (r : Int)]⟩ :: [])) := by simpa [intRowOf] using ho4
                    obtain ⟨vd4, vm4, hv4⟩ := ow_ints o4
                    subst hv4
                    have b6 := b5.trans hb4
                    have l6 := Nat.le_trans l5 hb4.size
                    have o6 := o4.perm (List.Perm.swap _ _ _)
                    clear ho4 o5s
                    refine hK.out _ _ (hfc.out _ b6) (fun _ => ?_)
                    clear hK K
                    try simp only [List.getElem_toArray, List.getElem_cons_succ, List.getElem_cons_zero, Act.put, List.setIfInBounds_toArray, List.set_cons_zero, List.set_cons_succ]
                    refine wpAnyH_ready (rs := [7]) (by kernel_rfl) (by simp) ?_
                    refine AllReadyH.cons rfl (fun K hK => ?_) AllReadyH.nil
                    have c6 : w6.cell? ⟨gl, 0, none⟩ = some (.int .i64 (r : Int)) := ow_cell o6 (.head _) (j := 0) (by omega)
                    refine step_append1z rfl (.tmp 235) (.tmp 237) 29 rfl elemInt rfl (o6.perm (List.Perm.swap _ _ _)) l6 (us := [.int .i64 (r : Int)]) rfl rfl ?_ (by intro u hu; simp at hu; subst hu; rfl) (by omega) (by omega) ?_
                    · intro jj u hj
                      match jj, hj with
                      | 0, hj => simp at hj; subst hj; exact c6
                    intro v7 w7 ho7 hb7
                    have o7 : Own w7 B (intRowOf 3 v7 XR :: (⟨3, 1, .slice (some ⟨gl, 0, none⟩) 1 1, 1, [.int .i64 (r : Int)]⟩ :: [])) := by
                      unfold intRowOf
                      rw [hXR.out, List.length_append, List.map_append]
                      exact ho7
                    obtain ⟨vd7, vm7, hv7⟩ := ow_ints o7
                    subst hv7
                    have b7 := b6.trans hb7
                    have l7 := Nat.le_trans l6 hb7.size
                    have hXr : IsInts w7 (.slice vd7 XR.length vm7) XR := o7.reads (by unfold Short; rw [hXRl.out]; omega) hXri.out
                    clear ho7
                    refine hK.out _ _ (hfc.out _ b7) (fun _ => ?_)
                    clear hK K
                    try simp only [List.getElem_toArray, List.getElem_cons_succ, List.getElem_cons_zero, Act.put, List.setIfInBounds_toArray, List.set_cons_zero, List.set_cons_succ]
                    have e7 : Ext wd w7 := hEx.out _ b7
                    have e17 : Ext w1 w7 := Ext.trans g14 (Ext.trans gd e7)
                    refine wpAnyH_ready (rs := [8]) (by kernel_rfl) (by simp) ?_
                    refine AllReadyH.cons rfl (fun K hK => ?_) AllReadyH.nil
                    go_simp
                    go_at_call 20
                    with_reducible refine (implWF_any (w0 := w7) (w := w7) hp'.ext hs hXr).mono ?_
                    rw [hsn.out, hNwf.out]
                    rintro e w8 ⟨d8, m8, rfl, own8, e8⟩
                    have b8 : Below B wd w8 := b7.trans (e8.below.mono l7)
                    have e14 : Ext w14 w8 := Ext.trans gd (Ext.trans e7 e8)
                    go_wp2_with fail
                    refine hK.out _ _ (hfc.out _ b8) (fun _ => ?_)
                    clear hK K
                    try simp only [List.getElem_toArray, List.getElem_cons_succ, List.getElem_cons_zero, Act.put, List.setIfInBounds_toArray, List.set_cons_zero, List.set_cons_succ]
                    refine wpAnyH_take (i := 9) (v := .tuple #[.slice d8 N.length m8, .bool true]) rfl (by kernel_rfl) (by kernel_rfl) (by kernel_rfl) (fun _ _ _ h => h) (Or.inl ⟨by rfl, by intro wx hx; go_simp⟩) (by assumption) ?_
                    try simp only [List.getElem_toArray, List.getElem_cons_succ, List.getElem_cons_zero, Act.put, List.setIfInBounds_toArray, List.set_cons_zero, List.set_cons_succ]
                    refine wpAnyH_take (i := 10) (v := .slice d8 N.length m8) rfl (by kernel_rfl) (by kernel_rfl) (by kernel_rfl) (fun _ _ _ h => h) (Or.inl ⟨by rfl, by intro wx hx; go_simp⟩) (by assumption) ?_
                    try simp only [List.getElem_toArray, List.getElem_cons_succ, List.getElem_cons_zero, Act.put, List.setIfInBounds_toArray, List.set_cons_zero, List.set_cons_succ]
                    refine wpAnyH_take (i := 11) (v := .bool true) rfl (by kernel_rfl) (by kernel_rfl) (by kernel_rfl) (fun _ _ _ h => h) (Or.inl ⟨by rfl, by intro wx hx; go_simp⟩) (by assumption) ?_
                    try simp only [List.getElem_toArray, List.getElem_cons_succ, List.getElem_cons_zero, Act.put, List.setIfInBounds_toArray, List.set_cons_zero, List.set_cons_succ]
                    refine wpAnyH_take (i := 12) (v := .slice d8 N.length m8) rfl (by kernel_rfl) (by kernel_rfl) (by kernel_rfl) (fun _ _ _ h => h) (Or.inl ⟨by rfl, by intro wx hx; go_simp⟩) (by assumption) ?_
                    try simp only [List.getElem_toArray, List.getElem_cons_succ, List.getElem_cons_zero, Act.put, List.setIfInBounds_toArray, List.set_cons_zero, List.set_cons_succ]
                    refine wpAnyH_take (i := 13) (v := .bool true) rfl (by kernel_rfl) (by kernel_rfl) (by kernel_rfl) (fun _ _ _ h => h) (Or.inl ⟨by rfl, by intro wx hx; go_simp⟩) (by assumption) ?_
                    try simp only [List.getElem_toArray, List.getElem_cons_succ, List.getElem_cons_zero, Act.put, List.setIfInBounds_toArray, List.set_cons_zero, List.set_cons_succ]
                    refine wpAnyH_done (by kernel_rfl) ?_ _
                    have hN8 : IsInts w8 (.slice d8 N.length m8) N := own8.reads (by unfold Short; have := hNi.out.1; omega) hNi.out.2
                    have own14' := own14.ext (w' := w8)
                    have hN14 : IsInts w8 (.slice d14 N.length m14) N := own14'.reads (by unfold Short; have := hNi.out.1; omega) hNi.out.2
                    clear own14'
                    go_wp2_with fail
                    refine (rInts_eq (w0 := w8) (w := w8) hN14 hN8).mono ?_
                    rintro e w9 ⟨rfl, e9⟩
                    go_wp2_with fail
                    go_roundw
                    case rel => exact ⟨r + 1, by omega, by go_num, Ext.trans gq (Ext.trans e14 e9)⟩
                    case measure => simp [intOf]; omega
                · go_wp2_with fail
                  go_ret
                  exact ⟨rfl, Ext.trans e1 (Ext.trans g13 gp)⟩
end Go.Proofs.Ytkniohcmhdgbeaa
