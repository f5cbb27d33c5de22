/- 'laws.FnWorst': for every code the law returns true. -/
import Derived.Test.YtkniohcmhdgbeaaDrawA
import Derived.Test.YtkniohcmhdgbeaaDrawW
import Derived.Test.YtkniohcmhdgbeaaRlaw
import Derived.Test.YtkniohcmhdgbeaaWorQ
import Derived.Test.YtkniohcmhdgbeaaWorstK
import Derived.Test.YtkniohcmhdgbeaaAlgS
import Derived.Test.YtkniohcmhdgbeaaFlatW
namespace Go.Proofs.Ytkniohcmhdgbeaa
open Go.RowKit

theorem Own.cut1 {w : World} {B e g n cp : Nat} {xs : List Int} (h : Own w B [intRowOf e (.slice (some ⟨g, 0, none⟩) n cp) xs]) {k : Nat} (hk : k ≤ xs.length) : Own w B [intRowOf e (.slice (some ⟨g, 0, none⟩) k cp) (xs.take k)] :=
  ((h.cons_nil 0 1).cutRow hk).tail
theorem Own.intsAs' {w : World} {B e : Nat} {v u : Value} {xs : List Int} {R : List Row} (h : Own w B (intRowOf e v xs :: R)) (k : IsInts w u xs) : IsInts w v xs := by
  obtain ⟨a, c, _, h2, h3, _⟩ := k
  exact h.reads h2.1 h3
theorem cost_in {M S N : List (List Int)} {s : Int} {X : List Int} (h : algOk M S N s X = true) : 0 ≤ lcR M S s X ∧ lcR M S s X ≤ costA M S N s X ∧ costA M S N s X ≤ 7140 := by
  have hl := alg_least h
  obtain ⟨h1, h2⟩ := algOk_parts' h
  have hn := startB_len h1
  have hp := startB_prob h1
  have hs := startB_state h1
  refine ⟨?_, hl, ?_⟩
  · rw [lcR, if_pos h1]
    have hw := work_ok h1 (Nat.le_refl X.length)
    have hne : workL M S (row M s.toNat) X ≠ [] := by
      intro e
      have e2 : (workTo M S (row M s.toNat) X X.length).length = 0 := by
        show (workL M S (row M s.toNat) X).length = 0
        rw [e]; rfl
      rw [hw.1] at e2
      omega
    obtain ⟨⟨c, hc, e1⟩, _⟩ := leastL_min hne
    obtain ⟨j, hj, rfl⟩ := mem_iff_nth.1 hc
    have e3 : optL M S (row M s.toNat) X = nth (workL M S (row M s.toNat) X) j := e1
    rw [e3]
    have hj' : j < M.length := by rw [← hw.1]; exact hj
    exact (hw.2 j hj').1
  · rw [costA, if_pos h]
    have := sumA_le h1 h2 (Nat.le_refl X.length)
    omega
where
  algOk_parts' {M S N : List (List Int)} {s : Int} {X : List Int} (h : algOk M S N s X = true) : startB M S s X = true ∧ algB M S N = true := by
    simp only [algOk, Bool.and_eq_true] at h
    exact h

set_option maxHeartbeats 3200000 in
set_option maxRecDepth 100000 in
theorem lawFnWorst_any {v : Value} {nb : Nat} {w : World} (hc : IsBytes w v nb) :
    Calls Try.prog 3 #[v] w fun e w' => e = .returned (.bool true) ∧ Ext w w' := by
  have hc' := hc
  obtain ⟨ac, cc, rfl⟩ := hc.form
  by_cases hbig : 65536 < nb
  · have hd := hid (decide_eq_true hbig)
    go_enter Try.func3, Try.ntmps3
    go_wp2_with fail
    refine (rBig_any hc').mono ?_
    rw [hd.out]
    rintro e w1 ⟨rfl, rfl⟩
    go_wp2_with fail
    go_ret
    exact ⟨rfl, Ext.refl _⟩
  · have hd := hid (decide_eq_false hbig)
    go_enter Try.func3, Try.ntmps3
    go_wp2_with fail
    refine (rBig_any hc').mono ?_
    rw [hd.out]
    rintro e w1 ⟨rfl, rfl⟩
    go_wp2_with fail
    refine (drawWS_any (w0 := w) (w := w) hc').mono ?_
    rintro e w1 ⟨pv, tv, s, q, M, S, T, rfl, hp, hT, hs, hq, e1⟩
    have hp' := hp
    obtain ⟨mv, sv, rfl, hM, hS⟩ := hp
    obtain ⟨a1, c1, rfl, l1⟩ := hM.form
    obtain ⟨a2, c2, rfl, l2⟩ := hS.form
    have hT' := hT
    obtain ⟨aT, cT, rfl, lT⟩ := hT.form
    go_upto_region 4 with fail
    have g2 : Ext w1 (w1.alloc (.cells #[.slice a1 M.length c1, .slice a2 S.length c2] 26)) := inferInstance
    have x0_2 : (w1.alloc (.cells #[.slice a1 M.length c1, .slice a2 S.length c2] 26)).cell? ⟨w1.heap.size, 0, none⟩ = some (.slice a1 M.length c1) := by go_simp
    have x1_2 : (w1.alloc (.cells #[.slice a1 M.length c1, .slice a2 S.length c2] 26)).cell? ⟨w1.heap.size, 1, none⟩ = some (.slice a2 S.length c2) := by go_simp
    obtain ⟨pb, hpb⟩ : ∃ r, r = w1.heap.size := ⟨_, rfl⟩
    generalize w1.alloc (.cells #[.slice a1 M.length c1, .slice a2 S.length c2] 26) = w2 at *
    rw [← hpb] at x0_2 x1_2 ⊢
    replace hpb := hid hpb
    obtain ⟨ok, hok⟩ : ∃ b, b = wsB M S T s q := ⟨_, rfl⟩
    obtain ⟨D, hD⟩ : ∃ b, b = wsD M S T s q := ⟨_, rfl⟩
    obtain ⟨X, hX⟩ : ∃ b, b = wsR M S T s q := ⟨_, rfl⟩
    replace hok := hid hok
    replace hD := hid hD
    replace hX := hid hX
    go_wp2_with fail
    refine (implWS_any (w0 := w1) (w := w2) hp' hT' hs hq).mono ?_
    rw [← hok.out, ← hD.out, ← hX.out]
    rintro e w3 ⟨d3, m3, rfl, own3, e3⟩
    have g3 : Ext w1 w3 := Ext.trans g2 e3
    have x0_3 := e3.cell x0_2
    have x1_3 := e3.cell x1_2
    clear x0_2 x1_2
    go_wp2_with fail
    refine (specWS_any (w0 := w1) (w := w3) hp' hT' hs hq).mono ?_
    rw [← hok.out, ← hD.out, ← hX.out]
    rintro e w4 ⟨d4, m4, rfl, hi4, e4⟩
    have g4 : Ext w1 w4 := Ext.trans g3 e4
    have x0_4 := e4.cell x0_3
    have x1_4 := e4.cell x1_3
    clear x0_3 x1_3
    have own34 := own3.ext (w' := w4)
    have hi3 : IsInts w4 (.slice d3 X.length m3) X := own34.intsAs' hi4
    clear own3 own34
    go_wp2_with fail
    refine (rInts_eq (w0 := w4) (w := w4) hi3 hi4).mono ?_
    rintro e w5 ⟨rfl, e5⟩
    have g5 : Ext w1 w5 := Ext.trans g4 e5
    have x0_5 := e5.cell x0_4
    have x1_5 := e5.cell x1_4
    clear x0_4 x1_4
    cases ok with
    | false =>
      go_wp2_with fail
      go_ret
      exact ⟨rfl, Ext.trans e1 g5⟩
    | true =>
      have hw := hid hok.out.symm
      have ht := hid (worst_told hw.out)
      have hq05 := hid (wsB_parts hw.out)
      obtain ⟨n, rfl⟩ : ∃ n : Nat, q = n := ⟨q.toNat, by have := hq05.out.2.2.1; omega⟩
      have hn5 : n ≤ 5 := by have := hq05.out.2.2.2; omega
      have hXn := hid (show X.length = n by have := ht.out.1; rw [← hX.out] at this; omega)
      have hoX := hid (show algOk M S T s X = true by rw [hX.out]; exact ht.out.2.2.1)
      have hsX := hid (show startB M S s X = true by rw [hX.out]; exact ht.out.2.1)
      have hin := hid (cost_in hoX.out)
      have hdiff := hid (show costA M S T s X - lcR M S s X = D by rw [hX.out, hD.out]; exact ht.out.2.2.2)
      have hcv := hi3.ext (w' := w5)
      go_wp2_with fail
      with_reducible refine (implAlgCost_any (w0 := w5) (w := w5) hp'.ext hT'.ext hs hcv).mono ?_
      rw [hoX.out]
      obtain ⟨C, hC⟩ : ∃ b, b = costA M S T s X := ⟨_, rfl⟩
      rw [← hC]
      replace hC := hid hC
      rintro e w6 ⟨rfl, e6⟩
      have g6 : Ext w1 w6 := Ext.trans g5 e6
      have x0_6 := e6.cell x0_5
      have x1_6 := e6.cell x1_5
      clear x0_5 x1_5
      go_wp2_with fail
      with_reducible refine (implLC_any (w0 := w5) (w := w6) hp'.ext hs hcv).mono ?_
      rw [hsX.out]
      obtain ⟨Lv, hLv⟩ : ∃ b, b = lcR M S s X := ⟨_, rfl⟩
      rw [← hLv]
      replace hLv := hid hLv
      rintro e w7 ⟨rfl, e7⟩
      have g7 : Ext w1 w7 := Ext.trans g6 e7
      have x0_7 := e7.cell x0_6
      have x1_7 := e7.cell x1_6
      clear x0_6 x1_6
      have hin2 : 0 ≤ Lv ∧ Lv ≤ C ∧ C ≤ 7140 := by rw [hC.out, hLv.out]; exact hin.out
      have hCD : ((C - Lv) == D) = true := by rw [hC.out, hLv.out, hdiff.out]; simp
      have hCD2 : ((C - Lv) != D) = false := by rw [hC.out, hLv.out, hdiff.out]; simp
      have hCD3 : C - Lv = D := by rw [hC.out, hLv.out, hdiff.out]
      have hXe : ((X.length : Int) != (n : Int)) = false := by rw [hXn.out]; simp
      have hXe2 : ((X.length : Int) == (n : Int)) = true := by rw [hXn.out]; simp

      replace hCD3 := hid hCD3
      go_upto_region 14 with fail
      go_wp2_with fail
      have ew7 : Ext w w7 := Ext.trans e1 g7
      with_reducible refine (drawAO_any (w0 := w) (w := w7) hc').mono ?_
      rintro e w8 ⟨pv2, tv2, s2, rv2, M2, S2, T2, Y, rfl, hp2, _, _, hY, hYl, ownY, e8⟩
      obtain ⟨mv2, sv2, rfl, hM2, hS2⟩ := hp2
      obtain ⟨a3, c3, rfl, _⟩ := hM2.form
      obtain ⟨a4, c4, rfl, _⟩ := hS2.form
      have hYi := hid (fun k hk => hY.i64 (k := k) hk)
      obtain ⟨aY, cY, rfl, lY⟩ := hY.form
      go_upto_region 15 with fail
      have e9 : Ext w7 (w8.alloc (.cells #[.slice a3 M2.length c3, .slice a4 S2.length c4] 26)) := Ext.trans e8 inferInstance
      have own9 := ownY.ext (w' := w8.alloc (.cells #[.slice a3 M2.length c3, .slice a4 S2.length c4] 26))
      generalize w8.alloc (.cells #[.slice a3 M2.length c3, .slice a4 S2.length c4] 26) = w9 at *
      generalize w8.heap.size = zz at *
      obtain ⟨B, hB⟩ : ∃ b, b = w7.heap.size := ⟨_, rfl⟩
      rw [← hB] at own9
      have hE := hid (show ∀ u, Below B w7 u → Ext w7 u from fun u h => ⟨by rw [← hB]; exact h⟩)
      have b9 : Below B w7 w9 := by rw [hB]; exact e9.below
      have hl9 : B ≤ w9.heap.size := by rw [hB]; exact e9.size
      replace hB := hid hB
      clear ownY hY e8 hi3 hi4 hcv hM2 hS2
      have hYy : ∃ W : List Int, ∃ m : Nat, ∃ d : Option Addr, (W.length ≤ n ∧ (∀ x ∈ W, I64 x)) ∧ (if n < Y.length then Value.slice aY n cY else Value.slice aY Y.length cY) = .slice d W.length m ∧ Own w9 B [intRowOf 3 (.slice d W.length m) W] := by
        have hYi' : ∀ x ∈ Y, I64 x := fun x hx => by
          obtain ⟨k, hk, rfl⟩ := mem_iff_nth.1 hx
          exact hYi.out k hk
        by_cases h : n < Y.length
        · obtain ⟨g, rfl⟩ := own9.at (j := 0) (by show 0 < Y.length; omega)
          rw [if_pos h]
          have hl : (Y.take n).length = n := by rw [List.length_take]; omega
          refine ⟨Y.take n, cY, some ⟨g, 0, none⟩, ⟨by omega, fun x hx => hYi' x (List.mem_of_mem_take hx)⟩, by rw [hl], ?_⟩
          rw [hl]
          exact own9.cut1 (by omega)
        · rw [if_neg h]
          exact ⟨Y, cY, aY, ⟨by omega, hYi'⟩, rfl, own9⟩
      have hcapY : Y.length ≤ cY := by
        have h := own9.head
        rcases h.2 with ⟨h1, h2⟩ | ⟨g, cap, cur, h1, _, _, h2, _⟩
        · have h2' : Y.length = 0 := h2
          omega
        · have h1' : Value.slice aY Y.length cY = .slice (some ⟨g, 0, none⟩) Y.length cap := h1
          cases h1'
          exact h2
      obtain ⟨W, mW, dW, hWl, hWv, ownW⟩ := hYy
      replace hWv := hid hWv
      replace hWl := hid hWl
      by_cases hlt : n < Y.length
      · have hWv2 := hid (show Value.slice aY n cY = .slice dW W.length mW by have := hWv.out; rw [if_pos hlt] at this; exact this)
        go_wp2_with fail
        go_loopw [20] (fun f wr => Below B w7 wr ∧ ∃ d m, ∃ Z : List Int, f = .slice d Z.length m ∧ Own wr B [intRowOf 3 (.slice d Z.length m) Z] ∧ Hid (Z.length ≤ n ∧ ∀ x ∈ Z, I64 x)) (fun f _ => match f with | .slice _ k _ => n - k | _ => 0)
        case atStart => exact ⟨b9, dW, mW, W, hWv2.out, ownW, hWl.out⟩
        case round =>
          obtain ⟨hb, d, m, Z, rfl, hown, hZ⟩ := hrel
          obtain ⟨wo, rfl⟩ : ∃ y : World, y = wr := ⟨_, rfl⟩
          have hBo : B ≤ wo.heap.size := by have := hb.size; rw [hB.out] at *; exact Nat.le_trans (Nat.le_refl _) this
          have hZl := hZ.out.1
          by_cases hlz : Z.length < n
          · go_wp2_with (at_builtin; refine wpList_append1 rfl _ _ _ rfl elemInt rfl hown hBo rfl rfl (by omega) (by omega) ?_; intro v1 w5 ho hb5)
            have ho' := ow_snoc ho rfl
            obtain ⟨d5, m5, hv⟩ := ow_ints ho'
            subst hv
            go_roundw
            case rel => exact ⟨hb.trans hb5, d5, m5, Z ++ [0], rfl, ho', by simp; omega, fun x hx => by
              rcases List.mem_append.1 hx with h | h
              · exact hZ.out.2 x h
              · rw [List.mem_singleton.1 h]; unfold I64; omega⟩
            case measure => simp; omega
          · have hzn : Z.length = n := by omega
            replace hzn := hid hzn
            obtain ⟨wl, rfl⟩ : ∃ y : World, y = wo := ⟨_, rfl⟩
            have eL : Ext w7 wl := hE.out _ hb
            have gl : Ext w1 wl := Ext.trans g7 eL
            have hZi : IsInts wl (.slice d Z.length m) Z := hown.reads (by unfold Short; omega) hZ.out.2
            have x0_l := eL.cell x0_7
            have x1_l := eL.cell x1_7
            clear hown hb x0_7 x1_7 own9 ownW
            have hal := hid (worst_alg hw.out Z)
            obtain ⟨sb, hsb⟩ : ∃ b, b = startB M S s Z := ⟨_, rfl⟩
            obtain ⟨C2, hC2⟩ : ∃ b, b = costA M S T s Z := ⟨_, rfl⟩
            obtain ⟨L2, hL2⟩ : ∃ b, b = lcR M S s Z := ⟨_, rfl⟩
            replace hsb := hid hsb
            replace hC2 := hid hC2
            replace hL2 := hid hL2
            have hmost := hid (show sb = true → 0 ≤ L2 ∧ L2 ≤ C2 ∧ C2 ≤ 7140 ∧ C2 - L2 ≤ D from fun h => by
              have h1 : startB M S s Z = true := by rw [← hsb.out]; exact h
              have h2 := cost_in (show algOk M S T s Z = true by rw [hal.out]; exact h1)
              have h3 := worst_most hw.out (show (Z.length : Int) = (n : Int) by rw [hzn.out]) h1
              rw [hL2.out, hC2.out, hD.out]
              exact ⟨h2.1, h2.2.1, h2.2.2, h3⟩)
            go_wp2_with fail
            with_reducible refine (implAlgCost_any (w0 := wl) (w := wl) hp'.ext hT'.ext hs hZi).mono ?_
            rw [hal.out, ← hsb.out, ← hC2.out]
            rintro e w10 ⟨rfl, e10⟩
            have x0_10 := e10.cell x0_l
            have x1_10 := e10.cell x1_l
            have g10 : Ext w1 w10 := Ext.trans gl e10
            clear x0_l x1_l
            go_wp2_with fail
            with_reducible refine (implLC_any (w0 := wl) (w := w10) hp'.ext hs hZi).mono ?_
            rw [← hsb.out, ← hL2.out]
            rintro e w11 ⟨rfl, e11⟩
            have hE1 : Ext w w11 := Ext.trans e1 (Ext.trans g10 e11)
            clear x0_10 x1_10
            cases sb with
            | false =>
              go_wp2_with fail
              go_ret
              exact ⟨rfl, hE1⟩
            | true =>
              obtain ⟨h1, h2, h3, h4⟩ := hmost.out rfl
              clear hmost
              go_wp2_with fail
              go_ret
              exact ⟨rfl, hE1⟩
      · have hWv2 := hid (show Value.slice aY Y.length cY = .slice dW W.length mW by have := hWv.out; rw [if_neg hlt] at this; exact this)
        go_wp2_with fail
        go_loopw [20] (fun f wr => Below B w7 wr ∧ ∃ d m, ∃ Z : List Int, f = .slice d Z.length m ∧ Own wr B [intRowOf 3 (.slice d Z.length m) Z] ∧ Hid (Z.length ≤ n ∧ ∀ x ∈ Z, I64 x)) (fun f _ => match f with | .slice _ k _ => n - k | _ => 0)
        case atStart => exact ⟨b9, dW, mW, W, hWv2.out, ownW, hWl.out⟩
        case round =>
          obtain ⟨hb, d, m, Z, rfl, hown, hZ⟩ := hrel
          obtain ⟨wo, rfl⟩ : ∃ y : World, y = wr := ⟨_, rfl⟩
          have hBo : B ≤ wo.heap.size := by have := hb.size; rw [hB.out] at *; exact Nat.le_trans (Nat.le_refl _) this
          have hZl := hZ.out.1
          by_cases hlz : Z.length < n
          · go_wp2_with (at_builtin; refine wpList_append1 rfl _ _ _ rfl elemInt rfl hown hBo rfl rfl (by omega) (by omega) ?_; intro v1 w5 ho hb5)
            have ho' := ow_snoc ho rfl
            obtain ⟨d5, m5, hv⟩ := ow_ints ho'
            subst hv
            go_roundw
            case rel => exact ⟨hb.trans hb5, d5, m5, Z ++ [0], rfl, ho', by simp; omega, fun x hx => by
              rcases List.mem_append.1 hx with h | h
              · exact hZ.out.2 x h
              · rw [List.mem_singleton.1 h]; unfold I64; omega⟩
            case measure => simp; omega
          · have hzn : Z.length = n := by omega
            replace hzn := hid hzn
            obtain ⟨wl, rfl⟩ : ∃ y : World, y = wo := ⟨_, rfl⟩
            have eL : Ext w7 wl := hE.out _ hb
            have gl : Ext w1 wl := Ext.trans g7 eL
            have hZi : IsInts wl (.slice d Z.length m) Z := hown.reads (by unfold Short; omega) hZ.out.2
            have x0_l := eL.cell x0_7
            have x1_l := eL.cell x1_7
            clear hown hb x0_7 x1_7 own9 ownW
            have hal := hid (worst_alg hw.out Z)
            obtain ⟨sb, hsb⟩ : ∃ b, b = startB M S s Z := ⟨_, rfl⟩
            obtain ⟨C2, hC2⟩ : ∃ b, b = costA M S T s Z := ⟨_, rfl⟩
            obtain ⟨L2, hL2⟩ : ∃ b, b = lcR M S s Z := ⟨_, rfl⟩
            replace hsb := hid hsb
            replace hC2 := hid hC2
            replace hL2 := hid hL2
            have hmost := hid (show sb = true → 0 ≤ L2 ∧ L2 ≤ C2 ∧ C2 ≤ 7140 ∧ C2 - L2 ≤ D from fun h => by
              have h1 : startB M S s Z = true := by rw [← hsb.out]; exact h
              have h2 := cost_in (show algOk M S T s Z = true by rw [hal.out]; exact h1)
              have h3 := worst_most hw.out (show (Z.length : Int) = (n : Int) by rw [hzn.out]) h1
              rw [hL2.out, hC2.out, hD.out]
              exact ⟨h2.1, h2.2.1, h2.2.2, h3⟩)
            go_wp2_with fail
            with_reducible refine (implAlgCost_any (w0 := wl) (w := wl) hp'.ext hT'.ext hs hZi).mono ?_
            rw [hal.out, ← hsb.out, ← hC2.out]
            rintro e w10 ⟨rfl, e10⟩
            have x0_10 := e10.cell x0_l
            have x1_10 := e10.cell x1_l
            have g10 : Ext w1 w10 := Ext.trans gl e10
            clear x0_l x1_l
            go_wp2_with fail
            with_reducible refine (implLC_any (w0 := wl) (w := w10) hp'.ext hs hZi).mono ?_
            rw [← hsb.out, ← hL2.out]
            rintro e w11 ⟨rfl, e11⟩
            have hE1 : Ext w w11 := Ext.trans e1 (Ext.trans g10 e11)
            clear x0_10 x1_10
            cases sb with
            | false =>
              go_wp2_with fail
              go_ret
              exact ⟨rfl, hE1⟩
            | true =>
              obtain ⟨h1, h2, h3, h4⟩ := hmost.out rfl
              clear hmost
              go_wp2_with fail
              go_ret
              exact ⟨rfl, hE1⟩
end Go.Proofs.Ytkniohcmhdgbeaa
