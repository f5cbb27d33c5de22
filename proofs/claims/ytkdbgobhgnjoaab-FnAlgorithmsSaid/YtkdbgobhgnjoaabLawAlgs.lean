/- 'laws.FnAlgorithms': for every code the law returns true. -/
import Derived.Test.YtkdbgobhgnjoaabDrawA
import Derived.Test.YtkdbgobhgnjoaabRlaw
import Derived.Test.YtkdbgobhgnjoaabSchP
import Derived.Test.YtkdbgobhgnjoaabAlg
import Derived.Test.YtkdbgobhgnjoaabAlgS
import Derived.Test.YtkdbgobhgnjoaabSchedC
import Derived.Test.YtkdbgobhgnjoaabCount
namespace Go.Proofs.Ytkdbgobhgnjoaab
open Go.RowKit

theorem Own.rowsAs {w : World} {B e1 e2 : Nat} {v u : Value} {vs : List Value} {M : List (List Int)} {R : List Row} (h : Own w B (rowsOf e1 e2 v vs M ++ R)) (hl : vs.length = M.length) (k : IsRows w u M) : IsRows w v M := by
  have ha := k.all
  exact Own.readsAll h hl ha.1 ha.2.1 ha.2.2
theorem Own.intsAs {w : World} {B e : Nat} {v u : Value} {xs : List Int} {R : List Row} (h : Own w B (intRowOf e v xs :: R)) (k : IsInts w u xs) : IsInts w v xs := by
  obtain ⟨a, c, _, h2, h3, _⟩ := k
  exact h.reads h2.1 h3
theorem one_ints (w : World) {x : Int} (hx : I64 x) : IsInts (w.alloc (.cells #[.int .i64 x] 3)) (.slice (some ⟨w.heap.size, 0, none⟩) 1 1) [x] := by
  have h := (Own.nil w w.heap.size).lit 3 1 1 #[.int .i64 x] (Nat.le_refl _) (by unfold maxLen; omega) rfl
  have h2 : Own (w.alloc (.cells #[.int .i64 x] 3)) w.heap.size (intRowOf 3 (.slice (some ⟨w.heap.size, 0, none⟩) 1 1) [x] :: []) := h
  exact h2.reads (by unfold Short; simp) (fun y hy => by rw [List.mem_singleton] at hy; rw [hy]; exact hx)

set_option maxHeartbeats 6400000 in
set_option maxRecDepth 100000 in
theorem lawFnAlgorithms_any {v : Value} {nb : Nat} {w : World} (hc : IsBytes w v nb) :
    Calls Try.prog 6 #[v] w fun e w' => e = .returned (.bool true) ∧ Ext w w' := by
  have hc' := hc
  obtain ⟨ac, cc, rfl⟩ := hc.form
  by_cases hbig : 65536 < nb
  · have hd := hid (decide_eq_true hbig)
    go_enter Try.func6, Try.ntmps6
    go_wp2_with fail
    refine (rBig_any hc').mono ?_
    rw [hd.out]
    rintro e w1 ⟨rfl, rfl⟩
    go_wp2_with fail
    go_ret
    exact ⟨rfl, Ext.refl _⟩
  · have hd := hid (decide_eq_false hbig)
    go_enter Try.func6, Try.ntmps6
    go_wp2_with fail
    refine (rBig_any hc').mono ?_
    rw [hd.out]
    rintro e w1 ⟨rfl, rfl⟩
    go_wp2_with fail
    refine (drawAC_any (w0 := w) (w := w) hc').mono ?_
    rintro e w1 ⟨pv, tv, s, rv, M, S, T, X, rfl, hp, hT, hs, hX, hXl, e1⟩
    have hp' := hp
    obtain ⟨mv, sv, rfl, hM, hS⟩ := hp
    obtain ⟨a1, c1, rfl, l1⟩ := hM.form
    obtain ⟨a2, c2, rfl, l2⟩ := hS.form
    have hX' := hX
    obtain ⟨aX, cX, rfl, lX⟩ := hX.form
    have hT' := hT
    obtain ⟨aT, cT, rfl, lT⟩ := hT.form
    go_upto_region 4 with fail
    have g2 : Ext w1 (w1.alloc (.cells #[.slice a1 M.length c1, .slice a2 S.length c2] 26)) := inferInstance
    have x0_2 : (w1.alloc (.cells #[.slice a1 M.length c1, .slice a2 S.length c2] 26)).cell? ⟨w1.heap.size, 0, none⟩ = some (.slice a1 M.length c1) := by go_simp
    have x1_2 : (w1.alloc (.cells #[.slice a1 M.length c1, .slice a2 S.length c2] 26)).cell? ⟨w1.heap.size, 1, none⟩ = some (.slice a2 S.length c2) := by go_simp
    obtain ⟨pb, hpb⟩ : ∃ r, r = w1.heap.size := ⟨_, rfl⟩
    generalize w1.alloc (.cells #[.slice a1 M.length c1, .slice a2 S.length c2] 26) = w2 at *
    rw [← hpb] at x0_2 x1_2 ⊢
    replace hpb := hid hpb
    obtain ⟨ob, hob⟩ : ∃ b, b = algOk M S T s X := ⟨_, rfl⟩
    obtain ⟨C, hC⟩ : ∃ b, b = costA M S T s X := ⟨_, rfl⟩
    obtain ⟨Y, hY⟩ : ∃ b, b = statesA M S T s X := ⟨_, rfl⟩
    obtain ⟨Lv, hLv⟩ : ∃ b, b = lcR M S s X := ⟨_, rfl⟩
    obtain ⟨pq, hpq⟩ : ∃ b, b = probB M S := ⟨_, rfl⟩
    obtain ⟨G0, hG0⟩ : ∃ b, b = gaR M S false := ⟨_, rfl⟩
    obtain ⟨G1, hG1⟩ : ∃ b, b = gaR M S true := ⟨_, rfl⟩
    replace hob := hid hob
    replace hC := hid hC
    replace hY := hid hY
    replace hLv := hid hLv
    replace hpq := hid hpq
    replace hG0 := hid hG0
    replace hG1 := hid hG1
    go_wp2_with fail
    refine (implAlgCost_any (w0 := w1) (w := w2) hp' hT' hs hX').mono ?_
    rw [← hob.out, ← hC.out]
    rintro e w3 ⟨rfl, e3⟩
    have g3 : Ext w1 w3 := Ext.trans g2 e3
    have x0_3 := e3.cell x0_2
    have x1_3 := e3.cell x1_2
    clear x0_2 x1_2
    go_wp2_with fail
    refine (specAlgCost_any (w0 := w1) (w := w3) hp' hT' hs hX').mono ?_
    rw [← hob.out, ← hC.out]
    rintro e w4 ⟨rfl, e4⟩
    have g4 : Ext w1 w4 := Ext.trans g3 e4
    have x0_4 := e4.cell x0_3
    have x1_4 := e4.cell x1_3
    clear x0_3 x1_3
    go_wp2_with fail
    refine (implAlgStates_any (w0 := w1) (w := w4) hp' hT' hs hX').mono ?_
    rw [← hob.out, ← hY.out]
    rintro e w5 ⟨d5, m5, rfl, own5, e5⟩
    have g5 : Ext w1 w5 := Ext.trans g4 e5
    have x0_5 := e5.cell x0_4
    have x1_5 := e5.cell x1_4
    clear x0_4 x1_4
    go_wp2_with fail
    refine (specAlgStates_any (w0 := w1) (w := w5) hp' hT' hs hX').mono ?_
    rw [← hob.out, ← hY.out]
    rintro e w6 ⟨d6, m6, rfl, hi6, e6⟩
    have g6 : Ext w1 w6 := Ext.trans g5 e6
    have x0_6 := e6.cell x0_5
    have x1_6 := e6.cell x1_5
    clear x0_5 x1_5
    have own56 := own5.ext (w' := w6)
    have hi5 : IsInts w6 (.slice d5 Y.length m5) Y := own56.intsAs hi6
    clear own5 own56
    go_wp2_with fail
    refine (rInts_eq (w0 := w6) (w := w6) hi5 hi6).mono ?_
    rintro e w7 ⟨rfl, e7⟩
    have g7 : Ext w1 w7 := Ext.trans g6 e7
    have x0_7 := e7.cell x0_6
    have x1_7 := e7.cell x1_6
    clear x0_6 x1_6
    go_wp2_with fail
    refine (rLeast_any (w0 := w1) (w := w7) hp' hs hX').mono ?_
    rw [← hLv.out]
    rintro e w8 ⟨rfl, e8⟩
    have g8 : Ext w1 w8 := Ext.trans g7 e8
    have x0_8 := e8.cell x0_7
    have x1_8 := e8.cell x1_7
    clear x0_7 x1_7
    cases ob with
    | false =>
      go_wp2_with fail
      refine (implGreedy_any (w0 := w1) (w := w8) hp').mono ?_
      rw [← hG0.out, ← hpq.out]
      rintro e w11 ⟨d11, m11, vs11, rfl, hv11, own11, e11⟩
      have g11 : Ext w1 w11 := Ext.trans g8 e11
      have x0_11 := e11.cell x0_8
      have x1_11 := e11.cell x1_8
      clear x0_8 x1_8
      go_wp2_with fail
      refine (specGreedy_any (w0 := w1) (w := w11) hp').mono ?_
      rw [← hG0.out, ← hpq.out]
      rintro e w12 ⟨d12, m12, rfl, hr12, e12⟩
      have g12 : Ext w1 w12 := Ext.trans g11 e12
      have x0_12 := e12.cell x0_11
      have x1_12 := e12.cell x1_11
      clear x0_11 x1_11
      have own112 := own11.ext (w' := w12)
      have hr11 : IsRows w12 (.slice d11 G0.length m11) G0 := own112.nilr.rowsAs hv11 hr12
      clear own11 own112 hv11
      go_wp2_with fail
      refine (IsProblem_any (w0 := w1) (w := w12) hp').mono ?_
      rw [← hpq.out]
      rintro e w13 ⟨rfl, e13⟩
      have g13 : Ext w1 w13 := Ext.trans g12 e13
      have x0_13 := e13.cell x0_12
      have x1_13 := e13.cell x1_12
      clear x0_12 x1_12
      go_wp2_with fail
      refine (rTable_eq (w0 := w12) (w := w13) hr11 hr12).mono ?_
      rintro e w14 ⟨rfl, e14⟩
      have g14 : Ext w1 w14 := Ext.trans g13 e14
      have x0_14 := e14.cell x0_13
      have x1_14 := e14.cell x1_13
      clear x0_13 x1_13
      go_wp2_with fail
      refine (implLazy_any (w0 := w1) (w := w14) hp').mono ?_
      rw [← hG1.out, ← hpq.out]
      rintro e w15 ⟨d15, m15, vs15, rfl, hv15, own15, e15⟩
      have g15 : Ext w1 w15 := Ext.trans g14 e15
      have x0_15 := e15.cell x0_14
      have x1_15 := e15.cell x1_14
      clear x0_14 x1_14
      go_wp2_with fail
      refine (specLazy_any (w0 := w1) (w := w15) hp').mono ?_
      rw [← hG1.out, ← hpq.out]
      rintro e w16 ⟨d16, m16, rfl, hr16, e16⟩
      have g16 : Ext w1 w16 := Ext.trans g15 e16
      have x0_16 := e16.cell x0_15
      have x1_16 := e16.cell x1_15
      clear x0_15 x1_15
      have own156 := own15.ext (w' := w16)
      have hr15 : IsRows w16 (.slice d15 G1.length m15) G1 := own156.nilr.rowsAs hv15 hr16
      clear own15 own156 hv15
      go_wp2_with fail
      refine (rTable_eq (w0 := w16) (w := w16) hr15 hr16).mono ?_
      rintro e w17 ⟨rfl, e17⟩
      have g17 : Ext w1 w17 := Ext.trans g16 e17
      have x0_17 := e17.cell x0_16
      have x1_17 := e17.cell x1_16
      clear x0_16 x1_16
      cases pq with
      | false =>
        go_wp2_with fail
        go_ret
        exact ⟨rfl, Ext.trans e1 g17⟩
      | true =>
        have hpt := hpq.out.symm
        have hma0 := made_alg hpt false
        have hma1 := made_alg hpt true
        have hcnt := count_pos hpt
        rw [← hG0.out] at hma0
        rw [← hG1.out] at hma1
        have f217 : Ext w12 w17 := Ext.trans e13 (Ext.trans e14 (Ext.trans e15 (Ext.trans e16 e17)))
        have hg0 := hr11.ext (w' := w17)
        have hg1 := hr15.ext (w' := w17)
        have hpL := hp'.ext (w' := w17)
        go_wp2_with fail
        refine (implIsAlg_any (w0 := w17) (w := w17) hpL hg0).mono ?_
        rw [hma0, ← hpq.out]
        rintro e w18 ⟨rfl, e18⟩
        have g18 : Ext w1 w18 := Ext.trans g17 e18
        have x0_18 := e18.cell x0_17
        have x1_18 := e18.cell x1_17
        clear x0_17 x1_17
        go_wp2_with fail
        refine (implIsAlg_any (w0 := w17) (w := w18) hpL hg1).mono ?_
        rw [hma1, ← hpq.out]
        rintro e w19 ⟨rfl, e19⟩
        have g19 : Ext w1 w19 := Ext.trans g18 e19
        have x0_19 := e19.cell x0_18
        have x1_19 := e19.cell x1_18
        clear x0_18 x1_18
        go_wp2_with fail
        refine (implCount_any (w0 := w1) (w := w19) hp').mono ?_
        rw [← hpq.out]
        rintro e w20 ⟨rfl, e20⟩
        have g20 : Ext w1 w20 := Ext.trans g19 e20
        have x0_20 := e20.cell x0_19
        have x1_20 := e20.cell x1_19
        clear x0_19 x1_19
        obtain ⟨cn, hcn⟩ : ∃ b, b = countR M S := ⟨_, rfl⟩
        rw [← hcn] at hcnt ⊢
        clear hcn
        have gL : Ext w1 w20 := g20
        have hgL : IsRows w20 (.slice d11 G0.length m11) G0 := by
          have : Ext w17 w20 := Ext.trans e18 (Ext.trans e19 e20)
          exact hg0.ext
        clear hma0 hma1
        go_wp2_with fail
        go_loopw [33] (fun i wr => ∃ k : Nat, k ≤ S.length ∧ i = .int .i64 k ∧ Ext w20 wr) (fun i _ => S.length - (intOf i).toNat)
        case atStart => exact ⟨0, by omega, rfl, Ext.refl _⟩
        case round =>
          obtain ⟨k, hk, rfl, hxr⟩ := hrel
          have z0 := hxr.cell x0_20
          have z1 := hxr.cell x1_20
          have e2r : Ext w1 wr := Ext.trans gL hxr
          go_wp2_with fail
          go_ret
          exact ⟨rfl, Ext.trans e1 e2r⟩
    | true =>
      have halg := hid (alg_sched (M := M) (S := S) (N := T) (s := s) (X := X) hob.out.symm)
      have hlow := alg_least (M := M) (S := S) (N := T) (s := s) (X := X) hob.out.symm
      rw [← hC.out, ← hLv.out] at hlow
      have f68 : Ext w6 w8 := Ext.trans e7 e8
      have hi8 := hi5.ext (w' := w8)
      go_wp2_with fail
      refine (implSched_any (w0 := w8) (w := w8) hp'.ext hs hX'.ext hi8).mono ?_
      rw [show schedR M S s X Y = C by rw [hC.out, hY.out]; exact halg.out.2, show schedB M S s X Y = true by rw [hY.out]; exact halg.out.1]
      rintro e w9 ⟨rfl, e9⟩
      have g9 : Ext w1 w9 := Ext.trans g8 e9
      have x0_9 := e9.cell x0_8
      have x1_9 := e9.cell x1_8
      clear x0_8 x1_8
      have hst := hid (show startB M S s X = true by have := hob.out.symm; simp only [algOk, Bool.and_eq_true] at this; exact this.1)
      have hal := hid (show algB M S T = true by have := hob.out.symm; simp only [algOk, Bool.and_eq_true] at this; exact this.2)
      go_wp2_with fail
      refine (implGreedy_any (w0 := w1) (w := w9) hp').mono ?_
      rw [← hG0.out, ← hpq.out]
      rintro e w11 ⟨d11, m11, vs11, rfl, hv11, own11, e11⟩
      have g11 : Ext w1 w11 := Ext.trans g9 e11
      have x0_11 := e11.cell x0_9
      have x1_11 := e11.cell x1_9
      clear x0_9 x1_9
      go_wp2_with fail
      refine (specGreedy_any (w0 := w1) (w := w11) hp').mono ?_
      rw [← hG0.out, ← hpq.out]
      rintro e w12 ⟨d12, m12, rfl, hr12, e12⟩
      have g12 : Ext w1 w12 := Ext.trans g11 e12
      have x0_12 := e12.cell x0_11
      have x1_12 := e12.cell x1_11
      clear x0_11 x1_11
      have own112 := own11.ext (w' := w12)
      have hr11 : IsRows w12 (.slice d11 G0.length m11) G0 := own112.nilr.rowsAs hv11 hr12
      clear own11 own112 hv11
      go_wp2_with fail
      refine (IsProblem_any (w0 := w1) (w := w12) hp').mono ?_
      rw [← hpq.out]
      rintro e w13 ⟨rfl, e13⟩
      have g13 : Ext w1 w13 := Ext.trans g12 e13
      have x0_13 := e13.cell x0_12
      have x1_13 := e13.cell x1_12
      clear x0_12 x1_12
      go_wp2_with fail
      refine (rTable_eq (w0 := w12) (w := w13) hr11 hr12).mono ?_
      rintro e w14 ⟨rfl, e14⟩
      have g14 : Ext w1 w14 := Ext.trans g13 e14
      have x0_14 := e14.cell x0_13
      have x1_14 := e14.cell x1_13
      clear x0_13 x1_13
      go_wp2_with fail
      refine (implLazy_any (w0 := w1) (w := w14) hp').mono ?_
      rw [← hG1.out, ← hpq.out]
      rintro e w15 ⟨d15, m15, vs15, rfl, hv15, own15, e15⟩
      have g15 : Ext w1 w15 := Ext.trans g14 e15
      have x0_15 := e15.cell x0_14
      have x1_15 := e15.cell x1_14
      clear x0_14 x1_14
      go_wp2_with fail
      refine (specLazy_any (w0 := w1) (w := w15) hp').mono ?_
      rw [← hG1.out, ← hpq.out]
      rintro e w16 ⟨d16, m16, rfl, hr16, e16⟩
      have g16 : Ext w1 w16 := Ext.trans g15 e16
      have x0_16 := e16.cell x0_15
      have x1_16 := e16.cell x1_15
      clear x0_15 x1_15
      have own156 := own15.ext (w' := w16)
      have hr15 : IsRows w16 (.slice d15 G1.length m15) G1 := own156.nilr.rowsAs hv15 hr16
      clear own15 own156 hv15
      go_wp2_with fail
      refine (rTable_eq (w0 := w16) (w := w16) hr15 hr16).mono ?_
      rintro e w17 ⟨rfl, e17⟩
      have g17 : Ext w1 w17 := Ext.trans g16 e17
      have x0_17 := e17.cell x0_16
      have x1_17 := e17.cell x1_16
      clear x0_16 x1_16
      cases pq with
      | false =>
        go_wp2_with fail
        go_ret
        exact ⟨rfl, Ext.trans e1 g17⟩
      | true =>
        have hpt := hpq.out.symm
        have hma0 := made_alg hpt false
        have hma1 := made_alg hpt true
        have hcnt := count_pos hpt
        rw [← hG0.out] at hma0
        rw [← hG1.out] at hma1
        have f217 : Ext w12 w17 := Ext.trans e13 (Ext.trans e14 (Ext.trans e15 (Ext.trans e16 e17)))
        have hg0 := hr11.ext (w' := w17)
        have hg1 := hr15.ext (w' := w17)
        have hpL := hp'.ext (w' := w17)
        go_wp2_with fail
        refine (implIsAlg_any (w0 := w17) (w := w17) hpL hg0).mono ?_
        rw [hma0, ← hpq.out]
        rintro e w18 ⟨rfl, e18⟩
        have g18 : Ext w1 w18 := Ext.trans g17 e18
        have x0_18 := e18.cell x0_17
        have x1_18 := e18.cell x1_17
        clear x0_17 x1_17
        go_wp2_with fail
        refine (implIsAlg_any (w0 := w17) (w := w18) hpL hg1).mono ?_
        rw [hma1, ← hpq.out]
        rintro e w19 ⟨rfl, e19⟩
        have g19 : Ext w1 w19 := Ext.trans g18 e19
        have x0_19 := e19.cell x0_18
        have x1_19 := e19.cell x1_18
        clear x0_18 x1_18
        go_wp2_with fail
        refine (implCount_any (w0 := w1) (w := w19) hp').mono ?_
        rw [← hpq.out]
        rintro e w20 ⟨rfl, e20⟩
        have g20 : Ext w1 w20 := Ext.trans g19 e20
        have x0_20 := e20.cell x0_19
        have x1_20 := e20.cell x1_19
        clear x0_19 x1_19
        obtain ⟨cn, hcn⟩ : ∃ b, b = countR M S := ⟨_, rfl⟩
        rw [← hcn] at hcnt ⊢
        clear hcn
        have gL : Ext w1 w20 := g20
        have hgL : IsRows w20 (.slice d11 G0.length m11) G0 := by
          have : Ext w17 w20 := Ext.trans e18 (Ext.trans e19 e20)
          exact hg0.ext
        clear hma0 hma1
        go_wp2_with fail
        go_loopw [33] (fun i wr => ∃ k : Nat, k ≤ S.length ∧ i = .int .i64 k ∧ Ext w20 wr) (fun i _ => S.length - (intOf i).toNat)
        case atStart => exact ⟨0, by omega, rfl, Ext.refl _⟩
        case round =>
          obtain ⟨k, hk, rfl, hxr⟩ := hrel
          have z0 := hxr.cell x0_20
          have z1 := hxr.cell x1_20
          obtain ⟨w21, rfl⟩ : ∃ y : World, y = wr := ⟨_, rfl⟩
          by_cases hlk : k < S.length
          · have hs1 := hid (startB_one hst.out (q := (k : Int)) (by omega))
            have hgr := hid (greedy_one hs1.out)
            have hno := hid (algOk_true hs1.out hal.out)
            have hle := alg_least hno.out
            obtain ⟨zc, hzc⟩ : ∃ b, b = lcR M S s [(k : Int)] := ⟨_, rfl⟩
            obtain ⟨yc, hyc⟩ : ∃ b, b = costA M S T s [(k : Int)] := ⟨_, rfl⟩
            rw [← hzc, ← hyc] at hle
            have hki : I64 (k : Int) := by unfold I64; omega
            replace hzc := hid hzc
            replace hyc := hid hyc
            have z0_21 := z0
            have z1_21 := z1
            have gw21 : Ext w20 w21 := hxr
            clear z0 z1
            have i22 := one_ints w21 hki
            have a22 : Ext w21 (w21.alloc (.cells #[.int .i64 (k : Int)] 3)) := inferInstance
            have z0_22 := a22.cell z0_21
            have z1_22 := a22.cell z1_21
            have gw22 : Ext w20 (w21.alloc (.cells #[.int .i64 (k : Int)] 3)) := Ext.trans gw21 a22
            have ga22 : Ext w1 (w21.alloc (.cells #[.int .i64 (k : Int)] 3)) := Ext.trans gL gw22
            have hpa := hp'.ext (w' := (w21.alloc (.cells #[.int .i64 (k : Int)] 3)))
            have hga := hgL.ext (w' := (w21.alloc (.cells #[.int .i64 (k : Int)] 3)))
            have hta := hT'.ext (w' := (w21.alloc (.cells #[.int .i64 (k : Int)] 3)))
            go_wp2_with fail
            refine (implAlgCost_any (w0 := (w21.alloc (.cells #[.int .i64 (k : Int)] 3))) (w := (w21.alloc (.cells #[.int .i64 (k : Int)] 3))) hpa hga hs i22).mono ?_
            rw [show costA M S G0 s [(k : Int)] = zc by rw [hzc.out, hG0.out]; exact hgr.out.2, show algOk M S G0 s [(k : Int)] = true by rw [hG0.out]; exact hgr.out.1]
            rintro e w22 ⟨rfl, e22⟩
            replace z0_22 := e22.cell z0_22
            replace z1_22 := e22.cell z1_22
            replace gw22 : Ext w20 w22 := Ext.trans gw22 e22
            clear hpa hga hta i22 a22 ga22 z0_21 z1_21
            have i23 := one_ints w22 hki
            have a23 : Ext w22 (w22.alloc (.cells #[.int .i64 (k : Int)] 3)) := inferInstance
            have z0_23 := a23.cell z0_22
            have z1_23 := a23.cell z1_22
            have gw23 : Ext w20 (w22.alloc (.cells #[.int .i64 (k : Int)] 3)) := Ext.trans gw22 a23
            have ga23 : Ext w1 (w22.alloc (.cells #[.int .i64 (k : Int)] 3)) := Ext.trans gL gw23
            have hpa := hp'.ext (w' := (w22.alloc (.cells #[.int .i64 (k : Int)] 3)))
            have hga := hgL.ext (w' := (w22.alloc (.cells #[.int .i64 (k : Int)] 3)))
            have hta := hT'.ext (w' := (w22.alloc (.cells #[.int .i64 (k : Int)] 3)))
            go_wp2_with fail
            refine (implAlgCost_any (w0 := (w22.alloc (.cells #[.int .i64 (k : Int)] 3))) (w := (w22.alloc (.cells #[.int .i64 (k : Int)] 3))) hpa hta hs i23).mono ?_
            rw [← hyc.out, hno.out]
            rintro e w23 ⟨rfl, e23⟩
            replace z0_23 := e23.cell z0_23
            replace z1_23 := e23.cell z1_23
            replace gw23 : Ext w20 w23 := Ext.trans gw23 e23
            clear hpa hga hta i23 a23 ga23 z0_22 z1_22
            have i24 := one_ints w23 hki
            have a24 : Ext w23 (w23.alloc (.cells #[.int .i64 (k : Int)] 3)) := inferInstance
            have z0_24 := a24.cell z0_23
            have z1_24 := a24.cell z1_23
            have gw24 : Ext w20 (w23.alloc (.cells #[.int .i64 (k : Int)] 3)) := Ext.trans gw23 a24
            have ga24 : Ext w1 (w23.alloc (.cells #[.int .i64 (k : Int)] 3)) := Ext.trans gL gw24
            have hpa := hp'.ext (w' := (w23.alloc (.cells #[.int .i64 (k : Int)] 3)))
            have hga := hgL.ext (w' := (w23.alloc (.cells #[.int .i64 (k : Int)] 3)))
            have hta := hT'.ext (w' := (w23.alloc (.cells #[.int .i64 (k : Int)] 3)))
            go_wp2_with fail
            refine (implLC_any (w0 := (w23.alloc (.cells #[.int .i64 (k : Int)] 3))) (w := (w23.alloc (.cells #[.int .i64 (k : Int)] 3))) hpa hs i24).mono ?_
            rw [← hzc.out, hs1.out]
            rintro e w24 ⟨rfl, e24⟩
            replace z0_24 := e24.cell z0_24
            replace z1_24 := e24.cell z1_24
            replace gw24 : Ext w20 w24 := Ext.trans gw24 e24
            clear hpa hga hta i24 a24 ga24 z0_23 z1_23
            go_wp2_with fail
            go_roundw
            case rel => exact ⟨k + 1, by omega, by go_num, gw24⟩
            case measure => simp [intOf]; omega
          · have e2r : Ext w1 w21 := Ext.trans gL hxr
            go_wp2_with fail
            go_ret
            exact ⟨rfl, Ext.trans e1 e2r⟩
end Go.Proofs.Ytkdbgobhgnjoaab
