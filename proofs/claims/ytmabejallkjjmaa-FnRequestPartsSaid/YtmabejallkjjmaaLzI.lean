/- The caches and the faults of a plan: the program's. -/
import Derived.Test.YtmabejallkjjmaaDel
import Derived.Test.YtmabejallkjjmaaLzT
import Derived.Test.YtmabejallkjjmaaGrB
import Derived.Test.YtmabejallkjjmaaGrD
namespace Go.Proofs.Ytmabejallkjjmaa
open Go.RowKit

/-- a cache in any order -/
def CSet (C N : List Int) : Prop := C.Nodup ∧ SAsc N ∧ ∀ y, y ∈ C ↔ y ∈ N
theorem CSet.nil : CSet [] [] := ⟨List.nodup_nil, List.Pairwise.nil, fun _ => Iff.rfl⟩
theorem CSet.len {C N : List Int} (h : CSet C N) : C.length = N.length := by
  have hN : N.Nodup := h.2.1.imp (fun h => by omega)
  have h1 := h.1.length_le_of_subset fun y hy => (h.2.2 y).1 hy
  have h2 := hN.length_le_of_subset fun y hy => (h.2.2 y).2 hy
  omega
theorem CSet.dif {C N : List Int} (h : CSet C N) : difL C = N := sasc_uniq (difL_sasc C) h.2.1 fun y => mem_difL.trans (h.2.2 y)
theorem CSet.has {C N : List Int} (h : CSet C N) (y : Int) : hasB C y = hasB N y := by
  unfold hasB
  exact decide_eq_decide.2 (h.2.2 y)
theorem CSet.put {C N : List Int} {r : Int} (h : CSet C N) (hr : r ∉ C) : CSet (C ++ [r]) (putL N r) := by
  refine ⟨List.nodup_append.2 ⟨h.1, List.nodup_cons.2 ⟨by simp, List.nodup_nil⟩, fun a ha b hb => ?_⟩, putL_sasc h.2.1, fun y => ?_⟩
  · rw [List.mem_singleton.1 hb]; intro e; exact hr (e ▸ ha)
  · rw [List.mem_append, List.mem_singleton, mem_putL, h.2.2 y]
    exact or_comm
theorem CSet.erase {C N : List Int} {o : Int} {q : Nat} (h : CSet C N) (hq : q < C.length) (ho : nth C q = o) : CSet (C.eraseIdx q) (outL N o) := by
  have e1 : C[q] = o := by rw [← ho]; simp [nth, hq]
  refine ⟨h.1.sublist (List.eraseIdx_sublist _ _), outL_sasc h.2.1, fun y => ?_⟩
  rw [mem_outL, ← h.2.2 y]
  constructor
  · intro hy
    refine ⟨(List.eraseIdx_sublist _ _).subset hy, fun e => ?_⟩
    have h2 := h.1
    rw [← List.take_append_drop q C, List.drop_eq_getElem_cons hq] at h2
    rw [List.eraseIdx_eq_take_drop_succ, List.mem_append] at hy
    rw [List.nodup_append] at h2
    rcases hy with hy | hy
    · exact h2.2.2 y hy _ (List.mem_cons_self) (by rw [e, e1])
    · exact (List.nodup_cons.1 h2.2.1).1 (by rw [e1, ← e]; exact hy)
  · rintro ⟨hy, hne⟩
    obtain ⟨j, hj, rfl⟩ := List.getElem_of_mem hy
    refine List.mem_eraseIdx_iff_getElem.2 ⟨j, hj, fun e => ?_, rfl⟩
    subst e
    exact hne e1
theorem CSet.filt {C N : List Int} (h : CSet C N) (o : Int) : CSet (C.filter fun x => !(x == o)) (outL N o) := by
  refine ⟨h.1.sublist List.filter_sublist, outL_sasc h.2.1, fun y => ?_⟩
  rw [mem_outL, ← h.2.2 y, List.mem_filter]
  simp
theorem outL_no {N : List Int} {o : Int} (h : o ∉ N) : outL N o = N := List.filter_eq_self.2 fun y hy => by
  have : y ≠ o := fun e => h (e ▸ hy)
  simpa using this

theorem Tab.toX {w : World} {B : Nat} {v rv : Value} {M : List (List Int)} {xs : List Int} {R : List Row} (h : Tab w B v M (intRowOf 3 rv xs :: R)) : TabX w B v M rv xs R := by
  obtain ⟨vs, h1, h2⟩ := h
  exact ⟨vs, h1, h2.perm List.perm_middle.symm⟩
theorem TabX.toTab {w : World} {B : Nat} {v rv : Value} {M : List (List Int)} {xs : List Int} {R : List Row} (h : TabX w B v M rv xs R) : Tab w B v M (intRowOf 3 rv xs :: R) := by
  obtain ⟨vs, h1, h2⟩ := h
  exact ⟨vs, h1, h2.perm List.perm_middle⟩
theorem tab_delete {w : World} {B : Nat} {v rv : Value} {M : List (List Int)} {xs : List Int} {R : List Row} (tab : TabX w B v M rv xs R) {i : Nat} (hi : i < xs.length) (hB : B ≤ w.heap.size) :
    Calls Try.prog 151 #[rv, .int .i64 i, .int .i64 ((i : Int) + 1)] w fun ee w' => ∃ u, ee = .returned u ∧ TabX w' B v M u (xs.eraseIdx i) R ∧ Below B w w' := by
  obtain ⟨vs, h1, h2⟩ := tab
  refine (delete_any h2 hi hB).mono ?_
  rintro ee w' ⟨u, rfl, h3, b3⟩
  exact ⟨u, rfl, ⟨vs, h1, h3⟩, b3⟩

theorem plB_any (n : Int) (X P : List Int) (h : P.length = X.length) : (!P.any fun a => !inB a (-1) (n - 1)) = plB n X P := by
  unfold plB
  rw [decide_eq_true h, Bool.true_and, List.not_any_eq_all_not, Bool.eq_iff_iff, List.all_eq_true]
  simp

set_option maxHeartbeats 1600000 in
set_option maxRecDepth 100000 in
theorem played_any {v u : Value} {k : Int} {X P : List Int} {w0 w : World} [Ext w0 w] (hX : IsInts w0 v X) (hP : IsInts w0 u P) (_hk : 1 ≤ k ∧ k ≤ 6) (hl : X.length ≤ 60) (hPl : P.length = X.length) (hX0 : ∀ s, s < X.length → 0 ≤ nth X s) :
    Calls Try.prog 116 #[.int .i64 k, v, u] w (RnPost k X P w) := by
  have hX' := hX
  obtain ⟨dx, mx, rfl, lx⟩ := hX.form
  have hP' := hP
  obtain ⟨dp, mp, rfl, lp⟩ := hP.form
  have hPl2 : X.length ≤ P.length ∧ P.length ≤ X.length := by omega
  replace hPl := hid hPl
  have hi64 := hid (show ∀ t, t ≤ X.length → ∀ y ∈ rnC X P t, I64 y from fun t ht y hy => by
    obtain ⟨s, hs, rfl⟩ := rnC_mem ht hy
    exact hX'.i64 (by omega))
  have h00 := hid (show ∀ t, t ≤ X.length → ∀ y ∈ rnC X P t, 0 ≤ y from fun t ht y hy => by
    obtain ⟨s, hs, rfl⟩ := rnC_mem ht hy
    exact hX0 s (by omega))
  have hkl := hid (fun (t : Nat) (h : rnB k X P t = true) => show ((rnC X P t).length : Int) ≤ k from rnC_le (by omega) h (Nat.le_refl _))
  replace hX0 := hid hX0
  obtain ⟨B, hB0⟩ : ∃ b, b = w.heap.size := ⟨_, rfl⟩
  have hEx := hid (show ∀ u, Below B w u → Ext w u from fun u h => ⟨by rw [← hB0]; exact h⟩)
  have hBs := hid (show ∀ u, Below B w u → B ≤ u.heap.size from fun u h => by rw [hB0]; exact h.size)
  go_enter Try.func116, Try.ntmps116
  go_upto_region 3 with fail
  have own0 : Own (w.alloc (.cells #[] 3)) B [intRowOf 3 (.slice (some ⟨w.heap.size, 0, none⟩) 0 0) []] := Own.litInts (xs := []) (by omega) rfl rfl (by simp) rfl
  have hs1 : (w.alloc (.cells #[] 3)).heap.size = w.heap.size + 1 := by simp
  have hl1 : B ≤ (w.alloc (.cells #[] 3)).heap.size := by rw [hs1]; omega
  have tab1 : Tab ((w.alloc (.cells #[] 3)).alloc (.cells #[] 27)) B (.slice (some ⟨w.heap.size + 1, 0, none⟩) 0 0) (rnL X P 0) [intRowOf 3 (.slice (some ⟨w.heap.size, 0, none⟩) 0 0) []] := by
    have h := Tab.start own0 hl1
    rw [hs1] at h
    exact h
  have b1 : Below B w ((w.alloc (.cells #[] 3)).alloc (.cells #[] 27)) := ((Below.refl B w).alloc (by omega) _).alloc hl1 _
  clear own0 hs1 hl1
  replace hB0 := hid hB0
  generalize (w.alloc (.cells #[] 3)).alloc (.cells #[] 27) = w1 at *
  go_wp2_with fail
  go_loopw [9, 10, 11, 12, 13, 14, 15, 20] (fun cv ov fv _ _ _ _ iv wr => ∃ t : Nat, t ≤ X.length ∧ iv = .int .i64 t ∧ Hid (rnB k X P t = true) ∧ fv = .int .i64 (rnF X P t) ∧ ∃ C, Hid (CSet C (rnC X P t)) ∧ C.length ≤ 6 ∧ Tab wr B ov (rnL X P t) [intRowOf 3 cv C] ∧ Below B w wr) (fun _ _ _ _ _ _ _ iv _ => X.length - (intOf iv).toNat)
  case atStart => exact ⟨0, by omega, rfl, hid (by unfold rnB; rw [decide_eq_true_iff]; intro s hs; omega), rfl, [], hid CSet.nil, by simp, tab1, b1⟩
  case round =>
    clear tab1 b1
    obtain ⟨t, ht, rfl, hB, rfl, C, hcs, hC6, tab, hb⟩ := hrel
    obtain ⟨wo, rfl⟩ : ∃ y : World, y = wr := ⟨_, rfl⟩
    have eo : Ext w wo := hEx.out _ hb
    have e0 : Ext w0 wo := Ext.trans ‹Ext w0 w› eo
    have hBo := hBs.out _ hb
    obtain ⟨dC, nC, mC, rfl, hnC⟩ := tab.formN
    by_cases hlt : t < X.length
    · obtain ⟨bx, ox, hdx, hcx⟩ := hX'.at (w' := wo) hlt
      cases hdx
      obtain ⟨bp, op, hdp, hcp⟩ := hP'.at (w' := wo) (show t < P.length by omega)
      cases hdp
      have hri := hX'.i64 hlt
      have hoi := hP'.i64 (show t < P.length by omega)
      have hFb := rnF_bd X P t
      have hTl : (rnL X P t).length ≤ 100 := by rw [rnL_len]; omega
      have hN0 := h00.out t (by omega)
      have hCi := hid (show ∀ y ∈ C, I64 y from fun y hy => hi64.out t (by omega) y ((hcs.out.2.2 y).1 hy))
      obtain ⟨r, hr⟩ : ∃ r, r = nth X t := ⟨_, rfl⟩
      obtain ⟨o, ho⟩ : ∃ o, o = nth P t := ⟨_, rfl⟩
      obtain ⟨N, hN⟩ : ∃ N, N = rnC X P t := ⟨_, rfl⟩
      obtain ⟨T, hT⟩ : ∃ T, T = rnL X P t := ⟨_, rfl⟩
      obtain ⟨F, hF⟩ : ∃ F, F = rnF X P t := ⟨_, rfl⟩
      rw [← hr] at hcx hri
      rw [← ho] at hcp hoi
      rw [← hN] at hcs hN0
      rw [← hT] at tab hTl
      rw [← hF] at hFb ⊢
      replace hr := hid hr
      replace ho := hid ho
      replace hN := hid hN
      replace hT := hid hT
      replace hF := hid hF
      replace hN0 := hid hN0
      clear hnC
      obtain ⟨dn, mn, hvn⟩ := tab.rest.form
      simp only at hvn
      subst hvn
      have hiC : IsInts wo (.slice dn C.length mn) C := (tab.rest).reads (e := 3) (by unfold Short; omega) hCi.out
      obtain ⟨bh, hbh⟩ : ∃ b, b = hasB C r := ⟨_, rfl⟩
      have hbN := hid (show bh = hasB N r by rw [hbh, hcs.out.has])
      replace hbh := hid hbh
      go_wp2_with fail
      with_reducible refine (sContains_any (w0 := wo) (w := wo) hiC).mono ?_
      rw [← hbh.out]
      rintro e w3 ⟨rfl, rfl⟩
      cases bh with
      | true =>
        have hm := hid (hasB_true.1 hbN.out.symm)
        by_cases ho0 : 0 ≤ o
        · have g1 : decide (o ≥ 0) = true := decide_eq_true ho0
          have hfin := hid (rnB_not hlt (show okS k (rnC X P t) (nth X t) (nth P t) = false by
            rw [← hN.out, ← hr.out, ← ho.out]
            cases hq : okS k N r o with
            | false => rfl
            | true => exact absurd ⟨ho0, .inl hm.out⟩ (okS_iff.1 hq).1))
          go_wp2_with fail
          refine bodyPost_ret (v := .tuple #[.slice none 0 0, .int .i64 0, .bool false]) (by simp [results, Try.results116, go_sem]) rfl ?_
          exact rn_fail hfin.out (Ext.trans eo inferInstance)
        · have g1 : decide (o ≥ 0) = false := decide_eq_false ho0
          have hok1 := hid (show ¬ (0 ≤ o ∧ (r ∈ N ∨ o ∉ N)) from fun h => ho0 h.1)
          have hnx := hid (show nextC N r o = N by rw [nextC, if_pos hm.out, if_neg ho0])
          have hkN := hkl.out t hB.out
          rw [← hN.out] at hkN
          have hokt : okS k N r o = true := okS_iff.2 ⟨hok1.out, by rw [hnx.out]; exact hkN⟩
          have hB2 := hid (rnB_succ hB.out (by rw [← hN.out, ← hr.out, ← ho.out]; exact hokt))
          have hF2 := hid (show rnF X P (t + 1) = F by
            have e : rnF X P (t + 1) = rnF X P t + (if nth X t ∈ rnC X P t then 0 else 1) := rfl
            rw [e, ← hF.out, ← hN.out, ← hr.out, if_pos hm.out]
            all_goals omega)
          have hC2 := hid (show rnC X P (t + 1) = N by rw [rnC, ← hN.out, ← hr.out, ← ho.out, hnx.out])
          have hL2 := hid (show rnL X P (t + 1) = T ++ [N] by rw [rnL_succ, hT.out, hC2.out])
          have hdif := hid hcs.out.dif
          have hcs2 := hcs
          go_wp2_with fail
          with_reducible refine (risingO_any (w0 := wo) (w := wo) hiC).mono ?_
          rw [hdif.out]
          rintro e w8 ⟨d8, m8, rfl, own8, e8⟩
          have tab8 := Tab.join tab own8 e8 (hBs.out _ hb)
          have b8 : Below B w w8 := Below.trans hb (e8.below.mono (hBs.out _ hb))
          have hB8 := hBs.out _ b8
          clear hiC own8
          go_wp2_with (at_builtin; refine wpList_push rfl (.tmp 58) (.tmp 61) rfl rfl tab8 hB8 rfl (by omega) ?_; intro v9 w9 tab9 b9)
          go_roundw
          case rel => exact ⟨t + 1, by omega, by go_num, hB2, by rw [hF2.out], _, by rw [hC2.out]; exact hcs2, by omega, by rw [hL2.out]; exact tab9, b8.trans b9⟩
          case measure => simp [intOf]; omega
      | false =>
        have hm := hid (hasB_false.1 hbN.out.symm)
        have hmC := hid (hasB_false.1 hbh.out.symm)
        by_cases hin : o ∈ C
        · obtain ⟨h1, h2, h3⟩ := ixOf_in hin
          obtain ⟨q, hq⟩ : ∃ q : Nat, ixOf C o = q := ⟨(ixOf C o).toNat, by omega⟩
          rw [hq] at h1 h2 h3
          have hqC : q < C.length := by omega
          have hqo : nth C q = o := h3
          have ho0 : 0 ≤ o := hN0.out o ((hcs.out.2.2 o).1 hin)
          have g1 : decide ((q : Int) ≥ 0) = true := decide_eq_true (by omega)
          have hok1 := hid (show ¬ (0 ≤ o ∧ (r ∈ N ∨ o ∉ N)) from fun h => by
            rcases h.2 with h1 | h1
            · exact hm.out h1
            · exact h1 ((hcs.out.2.2 o).1 hin))
          have hnx := hid (show nextC N r o = putL (outL N o) r by rw [nextC, if_neg hm.out, if_pos ho0])
          have hcsE := hid (hcs.out.erase hqC hqo)
          have hEl : (C.eraseIdx q).length = C.length - 1 := by rw [List.length_eraseIdx, if_pos hqC]
          replace hq := hid hq
          replace hqo := hid hqo
          clear h1 h2 h3
          go_wp2_with fail
          with_reducible refine (sIndex_any (w0 := wo) (w := wo) hiC).mono ?_
          rw [hq.out]
          rintro e w3 ⟨rfl, rfl⟩
          clear hiC
          have tabX := tab.toX
          go_wp2_with fail
          with_reducible refine (tab_delete tabX hqC hBo).mono ?_
          rintro e w4 ⟨u4, rfl, tab4, b4⟩
          have bb4 : Below B w w4 := hb.trans b4
          clear tabX tab
          obtain ⟨E, hE⟩ : ∃ E, E = C.eraseIdx q := ⟨_, rfl⟩
          rw [← hE] at tab4 hcsE hEl
          have hrE := hid (show r ∉ E from fun h => hmC.out (by rw [hE] at h; exact (List.eraseIdx_sublist _ _).subset h))
          clear hE
          have hrn : r ∉ E := hrE.out
          have hcs2 := hid (CSet.put hcsE.out hrn)
          have hlen2 := (hcs2.out).len
          have hdif := hid (hcs2.out).dif
          go_upto_region 18 with (at_builtin; refine wpList_grow rfl (.tmp 50) (.tmp 52) rfl rfl tab4 (hBs.out _ bb4) rfl (by omega) ?_; intro v7 w7 tab7 b7)
          obtain ⟨d7, n7, m7, rfl, hn7⟩ := tab7.rformN
          have hn7' : n7 = (E ++ [r]).length := hn7.out
          have hll : (E ++ [r]).length = (E).length + 1 := by simp
          have bb7 : Below B w w7 := Below.trans bb4 b7
          clear hn7
          by_cases hle : (n7 : Int) ≤ k
          · have gk : decide ((n7 : Int) > k) = false := decide_eq_false (by omega)
            have hokt : okS k N r o = true := okS_iff.2 ⟨hok1.out, by rw [hnx.out, ← hlen2, ← hn7']; exact hle⟩
            have hB2 := hid (rnB_succ hB.out (by rw [← hN.out, ← hr.out, ← ho.out]; exact hokt))
            have hF2 := hid (show rnF X P (t + 1) = F + 1 by
              have e : rnF X P (t + 1) = rnF X P t + (if nth X t ∈ rnC X P t then 0 else 1) := rfl
              rw [e, ← hF.out, ← hN.out, ← hr.out, if_neg hm.out])
            have hC2 := hid (show rnC X P (t + 1) = putL (outL N o) r by rw [rnC, ← hN.out, ← hr.out, ← ho.out, hnx.out])
            have hL2 := hid (show rnL X P (t + 1) = T ++ [putL (outL N o) r] by rw [rnL_succ, hT.out, hC2.out])
            have hiC : IsInts w7 (.slice d7 n7 m7) (E ++ [r]) := tab7.reads (by unfold Short; omega) (fun y hy => hi64.out (t + 1) (by omega) y (by rw [hC2.out]; exact (hcs2.out.2.2 y).1 hy))
            have tab7' := tab7.toTab
            have hcl : (E ++ [r]).length ≤ 6 := by omega
            replace hn7' := hid hn7'
            replace hll := hid hll
            replace hlen2 := hid hlen2
            clear hrn tab7 hle
            go_wp2_with fail
            with_reducible refine (risingO_any (w0 := w7) (w := w7) hiC).mono ?_
            rw [hdif.out]
            rintro e w8 ⟨d8, m8, rfl, own8, e8⟩
            have tab8 := Tab.join tab7' own8 e8 (hBs.out _ bb7)
            have b8 : Below B w w8 := Below.trans bb7 (e8.below.mono (hBs.out _ bb7))
            have hB8 := hBs.out _ b8
            clear hiC own8
            go_wp2_with (at_builtin; refine wpList_push rfl (.tmp 58) (.tmp 61) rfl rfl tab8 hB8 rfl (by omega) ?_; intro v9 w9 tab9 b9)
            go_roundw
            case rel => exact ⟨t + 1, by omega, by go_num, hB2, by rw [hF2.out], _, by rw [hC2.out]; exact hcs2, by omega, by rw [hL2.out]; exact tab9, b8.trans b9⟩
            case measure => simp [intOf]; omega
          · have gk : decide ((n7 : Int) > k) = true := decide_eq_true (by omega)
            have hfin := hid (rnB_not hlt (show okS k (rnC X P t) (nth X t) (nth P t) = false by
              rw [← hN.out, ← hr.out, ← ho.out]
              cases hq : okS k N r o with
              | false => rfl
              | true =>
                have := (okS_iff.1 hq).2
                rw [hnx.out] at this
                omega))
            clear hrn
            have e7 : Ext w w7 := hEx.out _ bb7
            go_wp2_with fail
            refine bodyPost_ret (v := .tuple #[.slice none 0 0, .int .i64 0, .bool false]) (by simp [results, Try.results116, go_sem]) rfl ?_
            exact rn_fail hfin.out (Ext.trans e7 inferInstance)
        · by_cases ho0 : 0 ≤ o
          · have hix : ixOf C o = -1 := ixOf_none hin
            have g1 : decide (o ≥ 0) = true := decide_eq_true ho0
            have hfin := hid (rnB_not hlt (show okS k (rnC X P t) (nth X t) (nth P t) = false by
              rw [← hN.out, ← hr.out, ← ho.out]
              cases hq : okS k N r o with
              | false => rfl
              | true => exact absurd ⟨ho0, .inr (fun h => hin ((hcs.out.2.2 o).2 h))⟩ (okS_iff.1 hq).1))
            replace hix := hid hix
            go_wp2_with fail
            with_reducible refine (sIndex_any (w0 := wo) (w := wo) hiC).mono ?_
            rw [hix.out]
            rintro e w3 ⟨rfl, rfl⟩
            go_wp2_with fail
            refine bodyPost_ret (v := .tuple #[.slice none 0 0, .int .i64 0, .bool false]) (by simp [results, Try.results116, go_sem]) rfl ?_
            exact rn_fail hfin.out (Ext.trans eo inferInstance)
          · have hix : ixOf C o = -1 := ixOf_none hin
            have g1 : decide (o ≥ 0) = false := decide_eq_false ho0
            have hok1 := hid (show ¬ (0 ≤ o ∧ (r ∈ N ∨ o ∉ N)) from fun h => ho0 h.1)
            have hnx := hid (show nextC N r o = putL N r by rw [nextC, if_neg hm.out, if_neg ho0])
            replace hix := hid hix
            go_wp2_with fail
            with_reducible refine (sIndex_any (w0 := wo) (w := wo) hiC).mono ?_
            rw [hix.out]
            rintro e w3 ⟨rfl, rfl⟩
            clear hiC
            have tabX := tab.toX
            have hrn : r ∉ C := hmC.out
            have hcs2 := hid (CSet.put hcs.out hrn)
            have hlen2 := (hcs2.out).len
            have hdif := hid (hcs2.out).dif
            go_upto_region 18 with (at_builtin; refine wpList_grow rfl (.tmp 50) (.tmp 52) rfl rfl tabX (hBs.out _ hb) rfl (by omega) ?_; intro v7 w7 tab7 b7)
            obtain ⟨d7, n7, m7, rfl, hn7⟩ := tab7.rformN
            have hn7' : n7 = (C ++ [r]).length := hn7.out
            have hll : (C ++ [r]).length = (C).length + 1 := by simp
            have bb7 : Below B w w7 := Below.trans hb b7
            clear hn7
            by_cases hle : (n7 : Int) ≤ k
            · have gk : decide ((n7 : Int) > k) = false := decide_eq_false (by omega)
              have hokt : okS k N r o = true := okS_iff.2 ⟨hok1.out, by rw [hnx.out, ← hlen2, ← hn7']; exact hle⟩
              have hB2 := hid (rnB_succ hB.out (by rw [← hN.out, ← hr.out, ← ho.out]; exact hokt))
              have hF2 := hid (show rnF X P (t + 1) = F + 1 by
                have e : rnF X P (t + 1) = rnF X P t + (if nth X t ∈ rnC X P t then 0 else 1) := rfl
                rw [e, ← hF.out, ← hN.out, ← hr.out, if_neg hm.out])
              have hC2 := hid (show rnC X P (t + 1) = putL N r by rw [rnC, ← hN.out, ← hr.out, ← ho.out, hnx.out])
              have hL2 := hid (show rnL X P (t + 1) = T ++ [putL N r] by rw [rnL_succ, hT.out, hC2.out])
              have hiC : IsInts w7 (.slice d7 n7 m7) (C ++ [r]) := tab7.reads (by unfold Short; omega) (fun y hy => hi64.out (t + 1) (by omega) y (by rw [hC2.out]; exact (hcs2.out.2.2 y).1 hy))
              have tab7' := tab7.toTab
              have hcl : (C ++ [r]).length ≤ 6 := by omega
              replace hn7' := hid hn7'
              replace hll := hid hll
              replace hlen2 := hid hlen2
              clear hrn tab7 hle
              go_wp2_with fail
              with_reducible refine (risingO_any (w0 := w7) (w := w7) hiC).mono ?_
              rw [hdif.out]
              rintro e w8 ⟨d8, m8, rfl, own8, e8⟩
              have tab8 := Tab.join tab7' own8 e8 (hBs.out _ bb7)
              have b8 : Below B w w8 := Below.trans bb7 (e8.below.mono (hBs.out _ bb7))
              have hB8 := hBs.out _ b8
              clear hiC own8
              go_wp2_with (at_builtin; refine wpList_push rfl (.tmp 58) (.tmp 61) rfl rfl tab8 hB8 rfl (by omega) ?_; intro v9 w9 tab9 b9)
              go_roundw
              case rel => exact ⟨t + 1, by omega, by go_num, hB2, by rw [hF2.out], _, by rw [hC2.out]; exact hcs2, by omega, by rw [hL2.out]; exact tab9, b8.trans b9⟩
              case measure => simp [intOf]; omega
            · have gk : decide ((n7 : Int) > k) = true := decide_eq_true (by omega)
              have hfin := hid (rnB_not hlt (show okS k (rnC X P t) (nth X t) (nth P t) = false by
                rw [← hN.out, ← hr.out, ← ho.out]
                cases hq : okS k N r o with
                | false => rfl
                | true =>
                  have := (okS_iff.1 hq).2
                  rw [hnx.out] at this
                  omega))
              clear hrn
              have e7 : Ext w w7 := hEx.out _ bb7
              go_wp2_with fail
              refine bodyPost_ret (v := .tuple #[.slice none 0 0, .int .i64 0, .bool false]) (by simp [results, Try.results116, go_sem]) rfl ?_
              exact rn_fail hfin.out (Ext.trans e7 inferInstance)
    · have htl : t = X.length := by omega
      subst htl
      have hrow : IsRows wo (.slice dC nC mC) (rnL X P X.length) := by
        refine tab.reads (by unfold ShortRows; rw [rnL_len]; omega) (fun r hr => ?_) (fun r hr x hx => ?_)
        · obtain ⟨s, hs, rfl⟩ := List.mem_map.1 hr
          have := rnC_len X P (s + 1)
          have := List.mem_range.1 hs
          unfold Short; omega
        · obtain ⟨s, hs, rfl⟩ := List.mem_map.1 hr
          have := List.mem_range.1 hs
          exact hi64.out (s + 1) (by omega) x hx
      obtain ⟨F, hF⟩ : ∃ F, F = rnF X P X.length := ⟨_, rfl⟩
      rw [← hF]
      replace hF := hid hF
      go_wp2_with fail
      refine bodyPost_ret (v := .tuple #[.slice dC nC mC, .int .i64 F, .bool true]) (by simp [results, Try.results116, go_sem]) rfl ?_
      refine ⟨.slice dC nC mC, ?_, ?_, eo⟩
      · rw [hB.out, hF.out]; rfl
      · rw [hB.out]; exact hrow
end Go.Proofs.Ytmabejallkjjmaa
