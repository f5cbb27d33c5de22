/- The caches and the faults of a plan: the reference's. -/
import Derived.Test.YtkibmjenjgijmabLzP
import Derived.Test.YtkibmjenjgijmabPgL
import Derived.Test.YtkibmjenjgijmabGrD
import Derived.Test.YtkibmjenjgijmabGrE
namespace Go.Proofs.Ytkibmjenjgijmab
open Go.RowKit

theorem Tab.addR {w w' : World} {B : Nat} {v : Value} {M : List (List Int)} {R S : List Row} (h : Tab w B v M R) (hn : Own w' w.heap.size S) (e : Ext w w') (hB : B ≤ w.heap.size) : Tab w' B v M (S ++ R) := by
  obtain ⟨vs, h1, h2⟩ := h
  refine ⟨vs, h1, (Own.join h2 hn hB).perm ?_⟩
  rw [← List.append_assoc, ← List.append_assoc]
  exact List.perm_append_comm.append_right _
theorem Tab.subR {w : World} {B : Nat} {v : Value} {M : List (List Int)} {R R' : List Row} (h : Tab w B v M R) (p : R'.Sublist R) : Tab w B v M R' := by
  obtain ⟨vs, h1, h2⟩ := h
  exact ⟨vs, h1, h2.sub (p.append_left _)⟩

set_option maxHeartbeats 400000 in
theorem l5Plan_any {v u : Value} {n : Int} {X P : List Int} {w0 w : World} [Ext w0 w] (hX : IsInts w0 v X) (hP : IsInts w0 u P) (_hn : -100 ≤ n ∧ n ≤ 100) :
    Calls Try.prog 39 #[.int .i64 n, v, u] w fun e w' => e = .returned (.bool (plB n X P)) ∧ Ext w w' := by
  obtain ⟨a, c, rfl, la⟩ := hX.form
  have hP' := hP
  obtain ⟨b, d, rfl, lb⟩ := hP.form
  by_cases hl : P.length = X.length
  · have g1 : ((P.length : Int) != (X.length : Int)) = false := by simp; omega
    have hyes := hid (fun (h : ∀ i, i < P.length → inB (nth P i) (-1) (n - 1) = true) => show plB n X P = true by
      unfold plB
      rw [decide_eq_true hl, decide_eq_true (fun p hp => by
        obtain ⟨i, hi, rfl⟩ := mem_iff_nth.1 hp
        exact h i hi)]
      rfl)
    have hno := hid (fun (i : Nat) (hi : i < P.length) (h : inB (nth P i) (-1) (n - 1) = false) => show plB n X P = false by
      unfold plB
      rw [decide_eq_true hl, decide_eq_false (fun hh => by
        have := hh _ (nth_mem hi)
        rw [h] at this
        cases this)]
      rfl)
    replace hl := hid hl
    go_enter Try.func39, Try.ntmps39
    go_wp2_with fail
    go_loopw [7] (fun q wr => ∃ i : Nat, i ≤ P.length ∧ q = .int .i64 i ∧ Hid (∀ j, j < i → inB (nth P j) (-1) (n - 1) = true) ∧ Ext w wr) (fun q _ => P.length - (intOf q).toNat)
    case atStart => exact ⟨0, by omega, rfl, fun j hj => by omega, Ext.refl _⟩
    case round =>
      obtain ⟨i, hi, rfl, hok, he⟩ := hrel
      obtain ⟨wo, rfl⟩ : ∃ y : World, y = wr := ⟨_, rfl⟩
      have e0 : Ext w0 wo := Ext.trans ‹Ext w0 w› he
      by_cases hlt : i < P.length
      · obtain ⟨bb, ob, hdb, hcb⟩ := hP'.at (w' := wo) hlt
        cases hdb
        cases hin : inB (nth P i) (-1) (n - 1) with
        | true =>
          have hok2 := hid (show ∀ j, j < i + 1 → inB (nth P j) (-1) (n - 1) = true from fun j hj => by
            by_cases e : j = i
            · subst e; exact hin
            · exact hok.out j (by omega))
          replace hin := hid hin
          go_wp2_with fail
          with_reducible refine (l1In_any _ _ _ _).mono ?_
          rw [hin.out]
          rintro e w2 ⟨rfl, rfl⟩
          go_wp2_with fail
          go_roundw
          case rel => exact ⟨i + 1, by omega, by go_num, hok2.out, he⟩
          case measure => simp [intOf]; omega
        | false =>
          have hfin := hid (hno.out i hlt hin)
          replace hin := hid hin
          go_wp2_with fail
          with_reducible refine (l1In_any _ _ _ _).mono ?_
          rw [hin.out]
          rintro e w2 ⟨rfl, rfl⟩
          go_wp2_with fail
          go_ret
          exact ⟨ret_bool hfin.out.symm, he⟩
      · have hil : i = P.length := by omega
        have hfin := hid (hyes.out fun j hj => hok.out j (by omega))
        replace hil := hid hil
        go_wp2_with fail
        go_ret
        exact ⟨ret_bool hfin.out.symm, he⟩
  · have hfin := hid (show plB n X P = false by unfold plB; rw [decide_eq_false hl]; rfl)
    have g1 : ((P.length : Int) != (X.length : Int)) = true := by simp; omega
    replace hl := hid hl
    go_enter Try.func39, Try.ntmps39
    go_wp2_with fail
    go_ret
    exact ⟨ret_bool hfin.out.symm, Ext.refl _⟩

/-- what the run of a plan gives -/
def RnPost (k : Int) (X P : List Int) (w : World) (e : Ending) (w' : World) : Prop :=
  ∃ u, e = .returned (.tuple #[u, .int .i64 (if rnB k X P X.length then rnF X P X.length else 0), .bool (rnB k X P X.length)]) ∧ IsRows w' u (if rnB k X P X.length then rnL X P X.length else []) ∧ Ext w w'
theorem rn_fail {k : Int} {X P : List Int} {w w' : World} {d : Option Addr} {c : Nat} (h : rnB k X P X.length = false) (e : Ext w w') : RnPost k X P w (.returned (.tuple #[.slice d 0 c, .int .i64 0, .bool false])) w' :=
  ⟨.slice d 0 c, by rw [h]; rfl, by rw [h]; exact ⟨d, c, rfl, Nat.zero_le _, fun j hj => by simp at hj⟩, e⟩

set_option maxHeartbeats 1600000 in
set_option maxRecDepth 100000 in
theorem l5Run_any {v u : Value} {k : Int} {X P : List Int} {w0 w : World} [Ext w0 w] (hX : IsInts w0 v X) (hP : IsInts w0 u P) (_hk : 1 ≤ k ∧ k ≤ 6) (hl : X.length ≤ 60) (hPl : P.length = X.length) :
    Calls Try.prog 40 #[.int .i64 k, v, u] w (RnPost k X P w) := by
  have hX' := hX
  obtain ⟨dx, mx, rfl, lx⟩ := hX.form
  have hP' := hP
  obtain ⟨dp, mp, rfl, lp⟩ := hP.form
  have hPl2 : X.length ≤ P.length ∧ P.length ≤ X.length := by omega
  replace hPl := hid hPl
  have hi64 := hid (show ∀ t, t ≤ X.length → ∀ y ∈ rnC X P t, I64 y from fun t ht y hy => by
    obtain ⟨s, hs, rfl⟩ := rnC_mem ht hy
    exact hX'.i64 (by omega))
  obtain ⟨B, hB0⟩ : ∃ b, b = w.heap.size := ⟨_, rfl⟩
  have hEx := hid (show ∀ u, Below B w u → Ext w u from fun u h => ⟨by rw [← hB0]; exact h⟩)
  have hBs := hid (show ∀ u, Below B w u → B ≤ u.heap.size from fun u h => by rw [hB0]; exact h.size)
  go_enter Try.func40, Try.ntmps40
  go_upto_region 2 with fail
  have tab0 : Tab (w.alloc (.cells #[] 22)) B (.slice (some ⟨w.heap.size, 0, none⟩) 0 0) [] [] := by
    rw [hB0]
    exact Tab.start (Own.nil w w.heap.size) (Nat.le_refl _)
  have hs1 : (w.alloc (.cells #[] 22)).heap.size = w.heap.size + 1 := by simp
  have hl1 : B ≤ (w.alloc (.cells #[] 22)).heap.size := by rw [hs1]; omega
  have tab1 : Tab ((w.alloc (.cells #[] 22)).alloc (.cells #[] 3)) B (.slice (some ⟨w.heap.size, 0, none⟩) 0 0) (rnL X P 0) [intRowOf 3 (.slice (some ⟨w.heap.size + 1, 0, none⟩) 0 0) (rnC X P 0)] := by
    have h : Own ((w.alloc (.cells #[] 22)).alloc (.cells #[] 3)) (w.alloc (.cells #[] 22)).heap.size [intRowOf 3 (.slice (some ⟨w.heap.size + 1, 0, none⟩) 0 0) []] := Own.litInts (xs := []) (Nat.le_refl _) hs1.symm rfl (by simp) rfl
    exact tab0.addR h inferInstance hl1
  have b1 : Below B w ((w.alloc (.cells #[] 22)).alloc (.cells #[] 3)) := ((Below.refl B w).alloc (by omega) _).alloc hl1 _
  clear tab0 hs1 hl1
  replace hB0 := hid hB0
  generalize (w.alloc (.cells #[] 22)).alloc (.cells #[] 3) = w1 at *
  go_wp2_with fail
  go_loopw [9, 10, 11, 12] (fun cv fv nv iv wr => ∃ t : Nat, t ≤ X.length ∧ iv = .int .i64 t ∧ Hid (rnB k X P t = true) ∧ fv = .int .i64 (rnF X P t) ∧ Tab wr B cv (rnL X P t) [intRowOf 3 nv (rnC X P t)] ∧ Below B w wr) (fun _ _ _ iv _ => X.length - (intOf iv).toNat)
  case atStart => exact ⟨0, by omega, rfl, hid (by unfold rnB; rw [decide_eq_true_iff]; intro s hs; omega), rfl, tab1, b1⟩
  case round =>
    clear tab1 b1
    obtain ⟨t, ht, rfl, hB, rfl, tab, hb⟩ := hrel
    obtain ⟨wo, rfl⟩ : ∃ y : World, y = wr := ⟨_, rfl⟩
    have eo : Ext w wo := hEx.out _ hb
    have e0 : Ext w0 wo := Ext.trans ‹Ext w0 w› eo
    have hBo := hBs.out _ hb
    obtain ⟨dC, nC, mC, rfl, hnC⟩ := tab.formN
    by_cases hlt : t < X.length
    · obtain ⟨bx, ox, hdx, hcx⟩ := hX'.at (w' := wo) hlt
      cases hdx
      obtain ⟨bp, op, hdp, hcp⟩ := hP'.at (w' := wo) (show t < P.length by omega)
      cases hdp
      have hri := hX'.i64 hlt
      have hoi := hP'.i64 (show t < P.length by omega)
      have hFb := rnF_bd X P t
      have hTl : (rnL X P t).length ≤ 100 := by rw [rnL_len]; omega
      have hNl := rnC_len X P t
      have hNi := hi64.out t (by omega)
      have hNs := rnC_sasc X P t
      obtain ⟨r, hr⟩ : ∃ r, r = nth X t := ⟨_, rfl⟩
      obtain ⟨o, ho⟩ : ∃ o, o = nth P t := ⟨_, rfl⟩
      obtain ⟨N, hN⟩ : ∃ N, N = rnC X P t := ⟨_, rfl⟩
      obtain ⟨T, hT⟩ : ∃ T, T = rnL X P t := ⟨_, rfl⟩
      obtain ⟨F, hF⟩ : ∃ F, F = rnF X P t := ⟨_, rfl⟩
      rw [← hr] at hcx hri
      rw [← ho] at hcp hoi
      rw [← hN] at tab hNl hNi hNs
      rw [← hT] at tab hTl
      rw [← hF] at hFb ⊢
      replace hr := hid hr
      replace ho := hid ho
      replace hN := hid hN
      replace hT := hid hT
      replace hF := hid hF
      replace hNi := hid hNi
      replace hNs := hid hNs
      have hiN0 : ∃ d m, True := ⟨0, 0, trivial⟩
      clear hnC hiN0
      obtain ⟨dn, mn, hvn⟩ := tab.rest.form
      simp only at hvn
      subst hvn
      have hiN : IsInts wo (.slice dn N.length mn) N := (tab.rest).reads (e := 3) (by unfold Short; omega) hNi.out
      obtain ⟨bh, hbh⟩ : ∃ b, b = hasB N r := ⟨_, rfl⟩
      replace hbh := hid hbh
      go_wp2_with fail
      with_reducible refine (l1Has_any (w0 := wo) (w := wo) hiN).mono ?_
      rw [← hbh.out]
      rintro e w3 ⟨rfl, rfl⟩
      cases bh with
      | true =>
        have hm := hid (hasB_true.1 hbh.out.symm)
        by_cases ho0 : 0 ≤ o
        · have g1 : decide (o ≥ 0) = true := decide_eq_true ho0
          have hfin := hid (rnB_not hlt (show okS k (rnC X P t) (nth X t) (nth P t) = false by
            rw [← hN.out, ← hr.out, ← ho.out]
            cases hq : okS k N r o with
            | false => rfl
            | true => exact absurd ⟨ho0, .inl hm.out⟩ (okS_iff.1 hq).1))
          go_wp2_with fail
          refine bodyPost_ret (v := .tuple #[.slice (some ⟨wo.heap.size, 0, none⟩) 0 0, .int .i64 0, .bool false]) (by simp [results, Try.results40, go_sem]) rfl ?_
          exact rn_fail hfin.out (Ext.trans eo inferInstance)
        · have g1 : decide (o ≥ 0) = false := decide_eq_false ho0
          have hok1 := hid (show ¬ (0 ≤ o ∧ (r ∈ N ∨ o ∉ N)) from fun h => ho0 h.1)
          have hnx := hid (show nextC N r o = N by rw [nextC, if_pos hm.out, if_neg ho0])
          clear hiN
          have hNlen : (N).length ≤ 100 := by omega
          by_cases hle : ((N).length : Int) ≤ k
          · have gk : decide (((N).length : Int) > k) = false := decide_eq_false (by omega)
            have hokt : okS k N r o = true := okS_iff.2 ⟨hok1.out, by rw [hnx.out]; exact hle⟩
            have hB2 := hid (rnB_succ hB.out (by rw [← hN.out, ← hr.out, ← ho.out]; exact hokt))
            have hF2 := hid (show rnF X P (t + 1) = F by
              have e : rnF X P (t + 1) = rnF X P t + (if nth X t ∈ rnC X P t then 0 else 1) := rfl
              rw [e, ← hF.out, ← hN.out, ← hr.out, if_pos hm.out]
              all_goals omega)
            have hC2 := hid (show rnC X P (t + 1) = N by rw [rnC, ← hN.out, ← hr.out, ← ho.out, hnx.out])
            have hL2 := hid (show rnL X P (t + 1) = T ++ [N] by rw [rnL_succ, hT.out, hC2.out])
            have hiN : IsInts wo (.slice dn N.length mn) N := (tab.rest).reads (e := 3) (by unfold Short; omega) (fun y hy => hi64.out (t + 1) (by omega) y (by rw [hC2.out]; exact hy))
            have hBw := hBs.out _ hb
            go_wp2_with fail
            with_reducible refine (l1Own_any (w0 := wo) (w := wo) hiN).mono ?_
            rintro e w8 ⟨d8, m8, rfl, own8, e8⟩
            have tab8 := tab.join own8 e8 hBw
            have b8 : Below B w w8 := hb.trans (e8.below.mono hBw)
            have hB8 := hBs.out _ b8
            clear hiN own8 tab hb hle
            go_wp2_with (at_builtin; refine wpList_push rfl (.tmp 65) (.tmp 68) rfl rfl tab8 hB8 rfl (by omega) ?_; intro v9 w9 tab9 b9)
            go_roundw
            case rel => exact ⟨t + 1, by omega, by go_num, hB2, by rw [hF2.out], by rw [hL2.out, hC2.out]; exact tab9, b8.trans b9⟩
            case measure => simp [intOf]; omega
          · have gk : decide (((N).length : Int) > k) = true := decide_eq_true (by omega)
            have hfin := hid (rnB_not hlt (show okS k (rnC X P t) (nth X t) (nth P t) = false by
              rw [← hN.out, ← hr.out, ← ho.out]
              cases hq : okS k N r o with
              | false => rfl
              | true =>
                have := (okS_iff.1 hq).2
                rw [hnx.out] at this
                omega))
            go_wp2_with fail
            refine bodyPost_ret (v := .tuple #[.slice (some ⟨wo.heap.size, 0, none⟩) 0 0, .int .i64 0, .bool false]) (by simp [results, Try.results40, go_sem]) rfl ?_
            exact rn_fail hfin.out (Ext.trans eo inferInstance)
      | false =>
        have hm := hid (hasB_false.1 hbh.out.symm)
        by_cases ho0 : 0 ≤ o
        · have g1 : decide (o ≥ 0) = true := decide_eq_true ho0
          obtain ⟨b2, hb2⟩ : ∃ b, b = hasB N o := ⟨_, rfl⟩
          replace hb2 := hid hb2
          go_wp2_with fail
          with_reducible refine (l1Has_any (w0 := wo) (w := wo) hiN).mono ?_
          rw [← hb2.out]
          rintro e w3 ⟨rfl, rfl⟩
          cases b2 with
          | false =>
            have hfin := hid (rnB_not hlt (show okS k (rnC X P t) (nth X t) (nth P t) = false by
              rw [← hN.out, ← hr.out, ← ho.out]
              cases hq : okS k N r o with
              | false => rfl
              | true => exact absurd ⟨ho0, .inr (hasB_false.1 hb2.out.symm)⟩ (okS_iff.1 hq).1))
            go_wp2_with fail
            refine bodyPost_ret (v := .tuple #[.slice (some ⟨wo.heap.size, 0, none⟩) 0 0, .int .i64 0, .bool false]) (by simp [results, Try.results40, go_sem]) rfl ?_
            exact rn_fail hfin.out (Ext.trans eo inferInstance)
          | true =>
            have hok1 := hid (show ¬ (0 ≤ o ∧ (r ∈ N ∨ o ∉ N)) from fun h => by
              rcases h.2 with h1 | h1
              · exact hm.out h1
              · exact h1 (hasB_true.1 hb2.out.symm))
            have hnx := hid (show nextC N r o = putL (outL N o) r by rw [nextC, if_neg hm.out, if_pos ho0])
            have hol := outL_len N o
            have hpl := putL_len (x := r) (l := outL N o)
            go_wp2_with fail
            with_reducible refine (l5Out_any (w0 := wo) (w := wo) hiN (by omega)).mono ?_
            rintro e w4 ⟨d4, m4, rfl, own4, e4⟩
            have tab4 := (tab.addR own4 e4 hBo).subR (R' := [_]) (List.Sublist.cons_cons _ (List.nil_sublist _))
            have b4 : Below B w w4 := hb.trans (e4.below.mono hBo)
            have hB4 := hBs.out _ b4
            have hiO : IsInts w4 (.slice d4 (outL N o).length m4) (outL N o) := (tab4.rest).reads (e := 3) (by unfold Short; omega) (fun y hy => hNi.out y (mem_outL.1 hy).1)
            have hcx4 := e4.cell hcx
            clear hiN own4 tab hb hcx
            go_wp2_with fail
            with_reducible refine (l1PutO_any (w0 := w4) (w := w4) hiO hri (by omega)).mono ?_
            rintro e w5 ⟨d5, m5, rfl, hr5, hp5, e5⟩
            have tab5 : Tab w5 B (.slice dC nC mC) T [intRowOf 3 (.slice d5 (putL (outL N o) r).length m5) (putL (outL N o) r)] := by
              rcases hp5 with ⟨h1, h2⟩ | h
              · have h3 := tab4.ext (w' := w5)
                rw [h2] at h1 ⊢
                rw [h1]
                exact h3
              · exact (tab4.addR h e5 hB4).subR (List.Sublist.cons_cons _ (List.nil_sublist _))
            have b5 : Below B w w5 := b4.trans (e5.below.mono hB4)
            have ex5 : Ext w w5 := hEx.out _ b5
            clear hp5 hr5 tab4 b4
            have hNlen : ((putL (outL N o) r)).length ≤ 100 := by omega
            by_cases hle : (((putL (outL N o) r)).length : Int) ≤ k
            · have gk : decide ((((putL (outL N o) r)).length : Int) > k) = false := decide_eq_false (by omega)
              have hokt : okS k N r o = true := okS_iff.2 ⟨hok1.out, by rw [hnx.out]; exact hle⟩
              have hB2 := hid (rnB_succ hB.out (by rw [← hN.out, ← hr.out, ← ho.out]; exact hokt))
              have hF2 := hid (show rnF X P (t + 1) = (F + 1) by
                have e : rnF X P (t + 1) = rnF X P t + (if nth X t ∈ rnC X P t then 0 else 1) := rfl
                rw [e, ← hF.out, ← hN.out, ← hr.out, if_neg hm.out]
                all_goals omega)
              have hC2 := hid (show rnC X P (t + 1) = (putL (outL N o) r) by rw [rnC, ← hN.out, ← hr.out, ← ho.out, hnx.out])
              have hL2 := hid (show rnL X P (t + 1) = T ++ [(putL (outL N o) r)] by rw [rnL_succ, hT.out, hC2.out])
              have hiN : IsInts w5 (.slice d5 (putL (outL N o) r).length m5) (putL (outL N o) r) := (tab5.rest).reads (e := 3) (by unfold Short; omega) (fun y hy => hi64.out (t + 1) (by omega) y (by rw [hC2.out]; exact hy))
              have hBw := hBs.out _ b5
              go_wp2_with fail
              with_reducible refine (l1Own_any (w0 := w5) (w := w5) hiN).mono ?_
              rintro e w8 ⟨d8, m8, rfl, own8, e8⟩
              have tab8 := tab5.join own8 e8 hBw
              have b8 : Below B w w8 := b5.trans (e8.below.mono hBw)
              have hB8 := hBs.out _ b8
              clear hiN own8 tab5 b5 hle
              go_wp2_with (at_builtin; refine wpList_push rfl (.tmp 65) (.tmp 68) rfl rfl tab8 hB8 rfl (by omega) ?_; intro v9 w9 tab9 b9)
              go_roundw
              case rel => exact ⟨t + 1, by omega, by go_num, hB2, by rw [hF2.out], by rw [hL2.out, hC2.out]; exact tab9, b8.trans b9⟩
              case measure => simp [intOf]; omega
            · have gk : decide ((((putL (outL N o) r)).length : Int) > k) = true := decide_eq_true (by omega)
              have hfin := hid (rnB_not hlt (show okS k (rnC X P t) (nth X t) (nth P t) = false by
                rw [← hN.out, ← hr.out, ← ho.out]
                cases hq : okS k N r o with
                | false => rfl
                | true =>
                  have := (okS_iff.1 hq).2
                  rw [hnx.out] at this
                  omega))
              go_wp2_with fail
              refine bodyPost_ret (v := .tuple #[.slice (some ⟨w5.heap.size, 0, none⟩) 0 0, .int .i64 0, .bool false]) (by simp [results, Try.results40, go_sem]) rfl ?_
              exact rn_fail hfin.out (Ext.trans ex5 inferInstance)
        · have g1 : decide (o ≥ 0) = false := decide_eq_false ho0
          have hok1 := hid (show ¬ (0 ≤ o ∧ (r ∈ N ∨ o ∉ N)) from fun h => ho0 h.1)
          have hnx := hid (show nextC N r o = putL N r by rw [nextC, if_neg hm.out, if_neg ho0])
          have hpl := putL_len (x := r) (l := N)
          go_wp2_with fail
          with_reducible refine (l1PutO_any (w0 := wo) (w := wo) hiN hri (by omega)).mono ?_
          rintro e w5 ⟨d5, m5, rfl, hr5, hp5, e5⟩
          have tab5 : Tab w5 B (.slice dC nC mC) T [intRowOf 3 (.slice d5 (putL N r).length m5) (putL N r)] := by
            rcases hp5 with ⟨h1, h2⟩ | h
            · have h3 := tab.ext (w' := w5)
              rw [h2] at h1 ⊢
              rw [h1]
              exact h3
            · exact (tab.addR h e5 hBo).subR (List.Sublist.cons_cons _ (List.nil_sublist _))
          have b5 : Below B w w5 := hb.trans (e5.below.mono hBo)
          have ex5 : Ext w w5 := hEx.out _ b5
          clear hp5 hr5 tab hb
          have hNlen : ((putL N r)).length ≤ 100 := by omega
          by_cases hle : (((putL N r)).length : Int) ≤ k
          · have gk : decide ((((putL N r)).length : Int) > k) = false := decide_eq_false (by omega)
            have hokt : okS k N r o = true := okS_iff.2 ⟨hok1.out, by rw [hnx.out]; exact hle⟩
            have hB2 := hid (rnB_succ hB.out (by rw [← hN.out, ← hr.out, ← ho.out]; exact hokt))
            have hF2 := hid (show rnF X P (t + 1) = (F + 1) by
              have e : rnF X P (t + 1) = rnF X P t + (if nth X t ∈ rnC X P t then 0 else 1) := rfl
              rw [e, ← hF.out, ← hN.out, ← hr.out, if_neg hm.out]
              all_goals omega)
            have hC2 := hid (show rnC X P (t + 1) = (putL N r) by rw [rnC, ← hN.out, ← hr.out, ← ho.out, hnx.out])
            have hL2 := hid (show rnL X P (t + 1) = T ++ [(putL N r)] by rw [rnL_succ, hT.out, hC2.out])
            have hiN : IsInts w5 (.slice d5 (putL N r).length m5) (putL N r) := (tab5.rest).reads (e := 3) (by unfold Short; omega) (fun y hy => hi64.out (t + 1) (by omega) y (by rw [hC2.out]; exact hy))
            have hBw := hBs.out _ b5
            go_wp2_with fail
            with_reducible refine (l1Own_any (w0 := w5) (w := w5) hiN).mono ?_
            rintro e w8 ⟨d8, m8, rfl, own8, e8⟩
            have tab8 := tab5.join own8 e8 hBw
            have b8 : Below B w w8 := b5.trans (e8.below.mono hBw)
            have hB8 := hBs.out _ b8
            clear hiN own8 tab5 b5 hle
            go_wp2_with (at_builtin; refine wpList_push rfl (.tmp 65) (.tmp 68) rfl rfl tab8 hB8 rfl (by omega) ?_; intro v9 w9 tab9 b9)
            go_roundw
            case rel => exact ⟨t + 1, by omega, by go_num, hB2, by rw [hF2.out], by rw [hL2.out, hC2.out]; exact tab9, b8.trans b9⟩
            case measure => simp [intOf]; omega
          · have gk : decide ((((putL N r)).length : Int) > k) = true := decide_eq_true (by omega)
            have hfin := hid (rnB_not hlt (show okS k (rnC X P t) (nth X t) (nth P t) = false by
              rw [← hN.out, ← hr.out, ← ho.out]
              cases hq : okS k N r o with
              | false => rfl
              | true =>
                have := (okS_iff.1 hq).2
                rw [hnx.out] at this
                omega))
            go_wp2_with fail
            refine bodyPost_ret (v := .tuple #[.slice (some ⟨w5.heap.size, 0, none⟩) 0 0, .int .i64 0, .bool false]) (by simp [results, Try.results40, go_sem]) rfl ?_
            exact rn_fail hfin.out (Ext.trans ex5 inferInstance)
    · have htl : t = X.length := by omega
      rw [htl] at hB
      have hfin := hid hB.out
      have hFl := hid (show rnF X P t = rnF X P X.length by rw [htl])
      have hLl : rnL X P t = rnL X P X.length := by rw [htl]
      rw [hLl] at tab hnC
      have hn2 : nC = (rnL X P X.length).length := hnC.out
      subst hn2
      have hrd := tab.reads (by unfold ShortRows; rw [rnL_len]; omega) (fun y hy => by
        obtain ⟨s, hs, rfl⟩ := List.mem_map.1 hy
        have := rnC_len X P (s + 1)
        have h2 := List.mem_range.1 hs
        unfold Short; omega) (fun y hy z hz => by
        obtain ⟨s, hs, rfl⟩ := List.mem_map.1 hy
        have h2 := List.mem_range.1 hs
        exact hi64.out (s + 1) (by omega) z hz)
      obtain ⟨V, hV⟩ : ∃ V : Value, V = .slice dC (rnL X P X.length).length mC := ⟨_, rfl⟩
      rw [← hV] at hrd ⊢
      replace hV := hid hV
      replace htl := hid htl
      replace hLl := hid hLl
      clear tab hnC
      go_wp2_with fail
      refine bodyPost_ret (v := .tuple #[V, .int .i64 (rnF X P t), .bool true]) (by simp [results, Try.results40, go_sem]) rfl ?_
      exact ⟨V, by rw [hfin.out, hFl.out]; rfl, by rw [hfin.out]; exact hrd, eo⟩
end Go.Proofs.Ytkibmjenjgijmab
