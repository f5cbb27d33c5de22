/- The lazy plan: the reference's. -/
import Derived.Test.YtkibmjenjgijmabLzS
import Derived.Test.YtkibmjenjgijmabUse
import Derived.Test.YtkibmjenjgijmabGrC
namespace Go.Proofs.Ytkibmjenjgijmab
open Go.RowKit

theorem filter_first {N T : List Int} : ∀ {j : Nat}, j < N.length → (∀ l, l < j → nth N l ∈ T) → nth N j ∉ T → nth (N.filter fun y => !hasB T y) 0 = nth N j := by
  induction N with
  | nil => intro j hj; simp at hj
  | cons y N ih =>
    intro j hj h1 h2
    cases j with
    | zero =>
      have hy : y ∉ T := by simpa [nth] using h2
      rw [List.filter_cons, if_pos (by simp [hasB, hy])]
      simp [nth]
    | succ j =>
      have hy : y ∈ T := by simpa [nth] using h1 0 (by omega)
      rw [List.filter_cons, if_neg (by simp [hasB, hy])]
      have := ih (j := j) (by simpa using hj) (fun l hl => by simpa [nth] using h1 (l + 1) (by omega)) (by simpa [nth] using h2)
      rw [this]
      simp [nth]

set_option maxHeartbeats 800000 in
set_option maxRecDepth 100000 in
theorem specPC_any {vX vP : Value} {k n : Int} {X P : List Int} {w0 w : World} [Ext w0 w] (hX : IsInts w0 vX X) (hP : IsInts w0 vP P) (_hk : I64 k) (hn : -100 ≤ n ∧ n ≤ 100) :
    Calls Try.prog 20 #[.int .i64 k, .int .i64 n, vX, vP] w fun e w' => ∃ u, e = .returned (.tuple #[u, .bool (pcB k n X P)]) ∧ IsRows w' u (pcC k n X P) ∧ Ext w w' := by
  cases hp : pagB k n X with
  | false =>
    have hr := hid (show pcB k n X P = false by rw [pcB, hp]; rfl)
    have hv := hid (show pcC k n X P = [] by rw [pcC, hr.out]; rfl)
    replace hp := hid hp
    go_enter Try.func20, Try.ntmps20
    go_wp2_with fail
    with_reducible refine (l5Takes_any (w0 := w0) hX).mono ?_
    rw [hp.out]
    rintro e w2 ⟨rfl, e2⟩
    go_wp2_with fail
    go_ret2
    rw [hr.out, hv.out]
    exact ⟨_, rfl, isRows_zero _ _ _, Ext.trans e2 inferInstance⟩
  | true =>
    obtain ⟨hk2, hn2, hl, _⟩ := pagB_in hp
    cases hm : plB n X P with
    | false =>
      have hr := hid (show pcB k n X P = false by rw [pcB, hp, hm]; rfl)
      have hv := hid (show pcC k n X P = [] by rw [pcC, hr.out]; rfl)
      replace hp := hid hp
      replace hm := hid hm
      go_enter Try.func20, Try.ntmps20
      go_wp2_with fail
      with_reducible refine (l5Takes_any (w0 := w0) hX).mono ?_
      rw [hp.out]
      rintro e w2 ⟨rfl, e2⟩
      have e02 : Ext w0 w2 := Ext.trans ‹Ext w0 w› e2
      go_wp2_with fail
      with_reducible refine (l5Plan_any (w0 := w0) (w := w2) hX hP hn).mono ?_
      rw [hm.out]
      rintro e w3 ⟨rfl, e3⟩
      go_wp2_with fail
      go_ret2
      rw [hr.out, hv.out]
      exact ⟨_, rfl, isRows_zero _ _ _, Ext.trans e2 (Ext.trans e3 inferInstance)⟩
    | true =>
      have hr := hid (show pcB k n X P = rnB k X P X.length by rw [pcB, hp, hm]; rfl)
      have hv := hid (show pcC k n X P = if rnB k X P X.length then rnL X P X.length else [] by rw [pcC, hr.out])
      have hpl : P.length = X.length := by
        simp only [plB, Bool.and_eq_true, decide_eq_true_eq] at hm
        exact hm.1
      replace hp := hid hp
      replace hm := hid hm
      replace hpl := hid hpl
      go_enter Try.func20, Try.ntmps20
      go_wp2_with fail
      with_reducible refine (l5Takes_any (w0 := w0) hX).mono ?_
      rw [hp.out]
      rintro e w2 ⟨rfl, e2⟩
      have e02 : Ext w0 w2 := Ext.trans ‹Ext w0 w› e2
      go_wp2_with fail
      with_reducible refine (l5Plan_any (w0 := w0) (w := w2) hX hP hn).mono ?_
      rw [hm.out]
      rintro e w3 ⟨rfl, e3⟩
      have e03 : Ext w0 w3 := Ext.trans e02 e3
      go_wp2_with fail
      with_reducible refine (l5Run_any (w0 := w0) (w := w3) hX hP hk2 hl hpl.out).mono ?_
      rintro e w4 ⟨u, rfl, hu, e4⟩
      rw [← hv.out] at hu
      obtain ⟨f, hf⟩ : ∃ f, f = (if rnB k X P X.length then rnF X P X.length else 0) := ⟨_, rfl⟩
      obtain ⟨b, hb⟩ : ∃ b, b = rnB k X P X.length := ⟨_, rfl⟩
      rw [← hf, ← hb]
      replace hf := hid hf
      have hr2 := hid (show pcB k n X P = b by rw [hr.out, hb])
      replace hb := hid hb
      go_wp2_with fail
      go_ret2
      rw [hr2.out]
      exact ⟨_, rfl, hu, Ext.trans e2 (Ext.trans e3 e4)⟩

set_option maxHeartbeats 1600000 in
set_option maxRecDepth 100000 in
theorem l5Lazy_any {vX vC : Value} {k : Int} {X P : List Int} {w0 w : World} [Ext w0 w] (hX : IsInts w0 vX X) (hC : IsRows w0 vC (rnL X P X.length)) (hk : 1 ≤ k ∧ k ≤ 6) (hl : X.length ≤ 60) (hB : rnB k X P X.length = true) (hX0 : ∀ s, s < X.length → 0 ≤ nth X s) :
    Calls Try.prog 41 #[.int .i64 k, vX, vC] w fun e w' => ∃ d m, e = .returned (.slice d X.length m) ∧ IsInts w' (.slice d X.length m) (lzL k X P X.length) ∧ Ext w w' := by
  have hX' := hX
  obtain ⟨dx, mx, rfl, lx⟩ := hX.form
  have hC' := hC
  obtain ⟨dC, mC, rfl, lC⟩ := hC.form
  have hCl := hid (rnL_len X P X.length)
  have hall := hid (show ∀ t, t ≤ X.length → LzOk k X P t from fun t ht => lz_all hk.1 hB hX0 ht)
  have hst := hid (fun t (ht : t < X.length) => lz_step hk.1 hB ht hX0 (hall.out t (by omega)))
  have hTl := hid (fun t (ht : t ≤ X.length) => rnC_le (X := X) (P := P) (by omega) hB (t := t) ht)
  have hTin := hid (fun t (ht : t < X.length) => show nth X t ∈ rnC X P (t + 1) from nextC_has _ _ _ (okS_iff.1 (rnB_at hB ht)).1)
  have hi64 := hid (show ∀ t, t ≤ X.length → ∀ y ∈ lzC k X P t, I64 y from fun t ht y hy => by
    obtain ⟨s, hs, rfl⟩ := (hall.out t ht).mem y hy
    exact hX'.i64 (by omega))
  rw [hCl.out]
  obtain ⟨B, hB0⟩ : ∃ b, b = w.heap.size := ⟨_, rfl⟩
  have hEx := hid (show ∀ u, Below B w u → Ext w u from fun u h => ⟨by rw [← hB0]; exact h⟩)
  have hBs := hid (show ∀ u, Below B w u → B ≤ u.heap.size from fun u h => by rw [hB0]; exact h.size)
  replace hB := hid hB
  replace hX0 := hid hX0
  have own1 : Own ((w.alloc (.cells #[] 3)).alloc (.cells #[] 3)) B [intRowOf 3 (.slice (some ⟨w.heap.size + 1, 0, none⟩) 0 0) (lzC k X P 0), ⟨3, 1, .slice (some ⟨w.heap.size, 0, none⟩) 0 0, 0, (lzL k X P 0).map (Value.int .i64)⟩] := by
    have h1 := (Own.nil w B).lit 3 1 0 #[] (by omega) (by unfold maxLen; omega) rfl
    have hs1 : (w.alloc (.cells #[] 3)).heap.size = w.heap.size + 1 := by simp
    have h2 := h1.lit 3 1 0 #[] (by rw [hs1]; omega) (by unfold maxLen; omega) rfl
    rw [hs1] at h2
    exact h2
  have b1 : Below B w ((w.alloc (.cells #[] 3)).alloc (.cells #[] 3)) := ((Below.refl B w).alloc (by omega) _).alloc (by simp; omega) _
  replace hB0 := hid hB0
  go_enter Try.func41, Try.ntmps41
  go_upto_region 2 with fail
  generalize (w.alloc (.cells #[] 3)).alloc (.cells #[] 3) = w1 at *
  go_wp2_with fail
  go_loopw [7, 8, 9] (fun pv nv iv wr => ∃ t : Nat, t ≤ X.length ∧ iv = .int .i64 t ∧ Own wr B [intRowOf 3 nv (lzC k X P t), ⟨3, 1, pv, t, (lzL k X P t).map (Value.int .i64)⟩] ∧ Below B w wr) (fun _ _ iv _ => X.length - (intOf iv).toNat)
  case atStart => exact ⟨0, by omega, rfl, own1, b1⟩
  case round =>
    clear own1 b1
    obtain ⟨t, ht, rfl, own, hb⟩ := hrel
    obtain ⟨wo, rfl⟩ : ∃ y : World, y = wr := ⟨_, rfl⟩
    have eo : Ext w wo := hEx.out _ hb
    have e0 : Ext w0 wo := Ext.trans ‹Ext w0 w› eo
    have hBo := hBs.out _ hb
    obtain ⟨dn, mn, hvn⟩ := own.form
    simp only at hvn
    subst hvn
    obtain ⟨dp, mp, hvp⟩ := own.tail.form
    simp only at hvp
    subst hvp
    by_cases hlt : t < X.length
    · obtain ⟨bx, ox, hdx, hcx⟩ := hX'.at (w' := wo) hlt
      cases hdx
      have hri := hX'.i64 hlt
      have hok := hall.out t (by omega)
      have hNi := hi64.out t (by omega)
      have hNk := hok.le
      have hNs := hok.asc
      have hNm := hok.mem
      have hstep := hst.out t hlt
      have hT1 := hTl.out (t + 1) (by omega)
      have hT2 := hTin.out t hlt
      have hC0 : lzC k X P (t + 1) = nextC (lzC k X P t) (nth X t) (lzP k X P t) := rfl
      have hL0 := lzL_succ k X P t
      have hP0 : lzP k X P t = lzO k (lzC k X P t) (nth X t) (rnC X P (t + 1)) := rfl
      obtain ⟨bc, oc, dT, mT, hdc, hcc, hiT, hlT⟩ := hC'.at (w' := wo) (k := t) (by rw [hCl.out]; exact hlt)
      cases hdc
      rw [rnL_at hlt] at hcc hiT
      have hTs := rnC_sasc X P (t + 1)
      have hiT2 := hiT.ext (w' := wo)
      obtain ⟨T, hT⟩ : ∃ T, T = rnC X P (t + 1) := ⟨_, rfl⟩
      obtain ⟨r, hr⟩ : ∃ r, r = nth X t := ⟨_, rfl⟩
      obtain ⟨N, hN⟩ : ∃ N, N = lzC k X P t := ⟨_, rfl⟩
      obtain ⟨L, hL⟩ : ∃ L, L = lzL k X P t := ⟨_, rfl⟩
      obtain ⟨o, ho⟩ : ∃ o, o = lzP k X P t := ⟨_, rfl⟩
      rw [← hT] at hcc hiT hiT2 hT1 hT2 hTs hP0
      rw [← hr] at hcx hri hT2 hC0 hP0
      rw [← hN] at own hNi hNk hNs hNm hC0 hP0 ⊢
      rw [← hL] at own hL0
      rw [← ho] at hC0 hP0 hL0
      have hP1 : o = lzO k N r T := hP0
      replace hT := hid hT
      replace hr := hid hr
      replace hN := hid hN
      replace hL := hid hL
      replace hNi := hid hNi
      replace hNs := hid hNs
      replace hNm := hid hNm
      replace hC0 := hid hC0
      replace hL0 := hid hL0
      replace hP1 := hid hP1
      clear hP0
      replace ho := hid ho
      replace hT2 := hid hT2
      replace hTs := hid hTs
      clear hstep hok
      have hNl : N.length ≤ 6 := by omega
      have hiN : IsInts wo (.slice dn N.length mn) N := own.reads (e := 3) (by unfold Short; omega) hNi.out
      obtain ⟨bh, hbh⟩ : ∃ b, b = hasB N r := ⟨_, rfl⟩
      replace hbh := hid hbh
      go_wp2_with fail
      with_reducible refine (l1Has_any (w0 := wo) (w := wo) hiN).mono ?_
      rw [← hbh.out]
      rintro e w3 ⟨rfl, rfl⟩
      cases bh with
      | true =>
        have hm := hasB_true.1 hbh.out.symm
        have hov : o = -1 := by rw [hP1.out, lzO, if_neg (fun h => h.1 hm)]
        have hC2 := hid (show lzC k X P (t + 1) = putL N r by rw [hC0.out, hov, nextC, if_pos hm, if_neg (by omega), putL_in hNs.out hm])
        have hL2 := hid (show lzL k X P (t + 1) = L ++ [-1] by rw [hL0.out, hov])
        replace hm := hid hm
        replace hov := hid hov
        have hpl := putL_len (x := r) (l := N)
        go_wp2_with fail
        with_reducible refine (l1PutO_any (w0 := wo) (w := wo) hiN hri (by omega)).mono ?_
        rintro e w5 ⟨d5, m5, rfl, hr5, hp5, e5⟩
        have own5 : Own w5 B [intRowOf 3 (.slice d5 (putL N r).length m5) (putL N r), ⟨3, 1, .slice dp t mp, t, L.map (Value.int .i64)⟩] := by
          rcases hp5 with ⟨h1, h2⟩ | h
          · have h3 := own.ext (w' := w5)
            rw [h2] at h1 ⊢
            rw [h1]
            exact h3
          · exact (Own.join own h hBo).sub (List.Sublist.cons_cons _ (List.sublist_cons_self _ _))
        have b5 : Below B w w5 := hb.trans (e5.below.mono hBo)
        have hB5 := hBs.out _ b5
        have h5' := own5.perm (List.Perm.swap _ _ _)
        clear hp5 hr5 own hb own5
        go_wp2_with (at_builtin; refine wpList_append1 rfl _ _ _ rfl elemInt rfl h5' hB5 rfl rfl (by omega) (by omega) ?_; intro v7 w7 ho7 hb7)
        go_roundw
        case rel => exact ⟨t + 1, by omega, by go_num, by rw [hC2.out, hL2.out, List.map_append]; exact ho7.perm (List.Perm.swap _ _ _), b5.trans hb7⟩
        case measure => simp [intOf]; omega
      | false =>
        have hm := hasB_false.1 hbh.out.symm
        by_cases hfull : (N.length : Int) = k
        · have g1 : ((N.length : Int) == k) = true := by simpa using hfull
          have hgs := gone_some hNs.out hTs.out hm hT2.out (by omega)
          have hex : ∃ q, q < N.length ∧ nth N q ∉ T := by
            have h1 := nth_mem hgs
            have h2 := List.mem_filter.1 h1
            obtain ⟨q, hq1, hq2⟩ := mem_iff_nth.1 h2.1
            refine ⟨q, hq1, ?_⟩
            rw [hq2]
            have h3 := h2.2
            simp only [hasB, Bool.not_eq_true'] at h3
            exact of_decide_eq_false h3
          replace hex := hid hex
          have hfo := hid (fun (j : Nat) (hj : j < N.length) (h1 : ∀ l, l < j → nth N l ∈ T) (h2 : nth N j ∉ T) => show o = nth N j by
            rw [hP1.out, lzO, if_pos ⟨hm, hfull⟩]
            exact filter_first hj h1 h2)
          have hCf := hid (fun (h0 : 0 ≤ o) => show lzC k X P (t + 1) = putL (outL N o) r by rw [hC0.out, nextC, if_neg hm, if_pos h0])
          replace hm := hid hm
          replace hfull := hid hfull
          clear hgs
          go_wp2_with fail
          go_loopw [11] (fun jv wr => ∃ j : Nat, j < N.length ∧ jv = .int .i64 j ∧ Hid (∀ l, l < j → nth N l ∈ T) ∧ Own wr B [intRowOf 3 (.slice dn N.length mn) N, ⟨3, 1, .slice dp t mp, t, L.map (Value.int .i64)⟩] ∧ Ext wo wr) (fun jv _ => N.length - (intOf jv).toNat)
          case atStart =>
            obtain ⟨q, hq, _⟩ := hex.out
            exact ⟨0, by omega, rfl, fun l hl => by omega, own, Ext.refl _⟩
          case round =>
            clear own
            obtain ⟨j, hj, rfl, hpre, own, he⟩ := hrel
            obtain ⟨wq, rfl⟩ : ∃ y : World, y = wr := ⟨_, rfl⟩
            have hcc2 := he.cell hcc
            have hiNq : IsInts wq (.slice dn N.length mn) N := own.reads (e := 3) (by unfold Short; omega) hNi.out
            obtain ⟨bn, on, hdn, hcn⟩ := hiNq.at (w' := wq) hj
            cases hdn
            have hiTq := hiT2.ext (e := he)
            have hzi := hiNq.i64 hj
            have hfoj := hid (hfo.out j hj hpre.out)
            have hNj := hNm.out _ (nth_mem hj)
            obtain ⟨z, hz⟩ : ∃ z, z = nth N j := ⟨_, rfl⟩
            rw [← hz] at hcn hzi hNj
            have hfoj2 := hid (fun h2 : z ∉ T => show o = z by rw [hz] at h2 ⊢; exact hfoj.out h2)
            obtain ⟨b2, hb2⟩ : ∃ b, b = hasB T z := ⟨_, rfl⟩
            have hH := hid (show ∀ u, Ext wq u → Calls Try.prog 69 #[.slice dT T.length mT, .int .i64 z] u fun e w' => e = .returned (.bool b2) ∧ w' = u from fun u e => (l1Has_any (w0 := wq) (w := u) hiTq).mono fun _ _ ⟨h1, h2⟩ => ⟨by rw [h1, hb2], h2.symm⟩)
            replace hb2 := hid hb2
            have hzj := hid hz
            clear hz hiTq hfoj
            cases b2 with
            | true =>
              have hpre2 := hid (show ∀ l, l < j + 1 → nth N l ∈ T from fun l hl => by
                by_cases e : l = j
                · rw [e, ← hzj.out]; exact hasB_true.1 hb2.out.symm
                · exact hpre.out l (by omega))
              have hj2 : j + 1 < N.length := by
                obtain ⟨q, hq1, hq2⟩ := hex.out
                by_cases h : j + 1 < N.length
                · exact h
                · exact absurd (hpre2.out q (by omega)) hq2
              go_wp2_with (go_quiet ((go_at_call 69; exact Calls.quiet_of_same (hH.out _ inferInstance))))
              go_roundw
              case rel => exact ⟨j + 1, hj2, by go_num, hpre2.out, own.ext, Ext.trans he inferInstance⟩
              case measure => simp [intOf]; omega
            | false =>
              have hov := hfoj2.out (hasB_false.1 hb2.out.symm)
              have ho0 : 0 ≤ z := by
                obtain ⟨s, hs1, hs2⟩ := hNj
                have := hX0.out s (by omega)
                omega
              have hC2 := hid (show lzC k X P (t + 1) = putL (outL N z) r by rw [hCf.out (by omega), hov])
              have hL2 := hid (show lzL k X P (t + 1) = L ++ [z] by rw [hL0.out, hov])
              replace hov := hid hov
              replace hNj := hid hNj
              have hol := outL_len N z
              have hpl := putL_len (x := r) (l := outL N z)
              have hbq : Below B w wq := hb.trans (he.below.mono hBo)
              have hcxq := he.cell hcx
              go_upto_region 10 with (go_quiet ((go_at_call 69; exact Calls.quiet_of_same (hH.out _ inferInstance))))
              have exz : Ext wq (wq.drewN nq) := inferInstance
              have ownz := own.ext (w' := wq.drewN nq)
              have hcnz := exz.cell hcn
              have hcxz := exz.cell hcxq
              have hbz := hbq.trans (exz.below.mono (hBs.out _ hbq))
              generalize wq.drewN nq = wz at *
              have hBz := hBs.out _ hbz
              have hiNz : IsInts wz (.slice (some ⟨bn, on, none⟩) N.length mn) N := ownz.reads (e := 3) (by unfold Short; omega) hNi.out
              clear own hiN hiNq hcn hcc2 he hb hbq hcxq
              go_wp2_with fail
              with_reducible refine (l5Out_any (w0 := wz) (w := wz) hiNz (by omega)).mono ?_
              rintro e w4 ⟨d4, m4, rfl, own4, e4⟩
              have own4' := (Own.join ownz own4 hBz).sub (List.Sublist.cons_cons _ (List.sublist_cons_self _ _))
              have b4 : Below B w w4 := hbz.trans (e4.below.mono hBz)
              have hB4 := hBs.out _ b4
              have hiO : IsInts w4 (.slice d4 (outL N z).length m4) (outL N z) := own4'.reads (e := 3) (by unfold Short; omega) (fun y hy => hNi.out y (mem_outL.1 hy).1)
              have hcx4 := e4.cell hcxz
              clear hiNz own4 ownz hbz hcxz
              go_wp2_with fail
              with_reducible refine (l1PutO_any (w0 := w4) (w := w4) hiO hri (by omega)).mono ?_
              rintro e w5 ⟨d5, m5, rfl, hr5, hp5, e5⟩
              have own5 : Own w5 B [intRowOf 3 (.slice d5 (putL (outL N z) r).length m5) (putL (outL N z) r), ⟨3, 1, .slice dp t mp, t, L.map (Value.int .i64)⟩] := by
                rcases hp5 with ⟨h1, h2⟩ | h
                · have h3 := own4'.ext (w' := w5)
                  rw [h2] at h1 ⊢
                  rw [h1]
                  exact h3
                · exact (Own.join own4' h hB4).sub (List.Sublist.cons_cons _ (List.sublist_cons_self _ _))
              have b5 : Below B w w5 := b4.trans (e5.below.mono hB4)
              have hB5 := hBs.out _ b5
              have h5' := own5.perm (List.Perm.swap _ _ _)
              clear hp5 hr5 own4' b4 own5
              go_wp2_with (at_builtin; refine wpList_append1 rfl _ _ _ rfl elemInt rfl h5' hB5 rfl rfl (by omega) (by omega) ?_; intro v7 w7 ho7 hb7)
              go_roundw
              case rel => exact ⟨t + 1, by omega, by go_num, by rw [hC2.out, hL2.out, List.map_append]; exact ho7.perm (List.Perm.swap _ _ _), b5.trans hb7⟩
              case measure => simp [intOf]; omega
        · have g1 : ((N.length : Int) == k) = false := by simpa using hfull
          have hov : o = -1 := by rw [hP1.out, lzO, if_neg (fun h => hfull h.2)]
          have hC2 := hid (show lzC k X P (t + 1) = putL N r by rw [hC0.out, hov, nextC, if_neg hm, if_neg (by omega)])
          have hL2 := hid (show lzL k X P (t + 1) = L ++ [-1] by rw [hL0.out, hov])
          replace hm := hid hm
          replace hfull := hid hfull
          replace hov := hid hov
          have hpl := putL_len (x := r) (l := N)
          go_wp2_with fail
          with_reducible refine (l1PutO_any (w0 := wo) (w := wo) hiN hri (by omega)).mono ?_
          rintro e w5 ⟨d5, m5, rfl, hr5, hp5, e5⟩
          have own5 : Own w5 B [intRowOf 3 (.slice d5 (putL N r).length m5) (putL N r), ⟨3, 1, .slice dp t mp, t, L.map (Value.int .i64)⟩] := by
            rcases hp5 with ⟨h1, h2⟩ | h
            · have h3 := own.ext (w' := w5)
              rw [h2] at h1 ⊢
              rw [h1]
              exact h3
            · exact (Own.join own h hBo).sub (List.Sublist.cons_cons _ (List.sublist_cons_self _ _))
          have b5 : Below B w w5 := hb.trans (e5.below.mono hBo)
          have hB5 := hBs.out _ b5
          have h5' := own5.perm (List.Perm.swap _ _ _)
          clear hp5 hr5 own hb own5
          go_wp2_with (at_builtin; refine wpList_append1 rfl _ _ _ rfl elemInt rfl h5' hB5 rfl rfl (by omega) (by omega) ?_; intro v7 w7 ho7 hb7)
          go_roundw
          case rel => exact ⟨t + 1, by omega, by go_num, by rw [hC2.out, hL2.out, List.map_append]; exact ho7.perm (List.Perm.swap _ _ _), b5.trans hb7⟩
          case measure => simp [intOf]; omega
    · have htl : t = X.length := by omega
      rw [htl] at own
      have hlL := hid (lzL_len k X P X.length)
      have hrd : IsInts wo (.slice dp X.length mp) (lzL k X P X.length) := own.tail.readsN (e := 3) hlL.out (by omega) (fun y hy => by
        obtain ⟨s, hs, rfl⟩ := List.mem_map.1 hy
        have hs2 := List.mem_range.1 hs
        rcases (hst.out s hs2).2.2.2 with e | h
        · rw [e]; unfold I64; omega
        · exact hi64.out s (by omega) _ h)
      have htl' := hid htl
      clear htl own
      go_wp2_with fail
      go_ret
      exact ⟨dp, mp, by rw [htl'.out]; rfl, hrd, eo⟩

theorem ints_nil (w : World) (d : Option Addr) (c : Nat) : IsInts w (.slice d 0 c) [] := ⟨d, c, rfl, ⟨Nat.zero_le _, Nat.zero_le _⟩, by simp, fun j hj => by simp at hj⟩
set_option maxHeartbeats 800000 in
set_option maxRecDepth 100000 in
theorem specLP_any {vX vP : Value} {k n : Int} {X P : List Int} {w0 w : World} [Ext w0 w] (hX : IsInts w0 vX X) (hP : IsInts w0 vP P) (_hk : I64 k) (hn : -100 ≤ n ∧ n ≤ 100) :
    Calls Try.prog 18 #[.int .i64 k, .int .i64 n, vX, vP] w fun e w' => ∃ u, e = .returned (.tuple #[u, .bool (pcB k n X P)]) ∧ IsInts w' u (lzR k n X P) ∧ Ext w w' := by
  cases hp : pagB k n X with
  | false =>
    have hr := hid (show pcB k n X P = false by rw [pcB, hp]; rfl)
    have hv := hid (show lzR k n X P = [] by rw [lzR, hr.out]; rfl)
    replace hp := hid hp
    go_enter Try.func18, Try.ntmps18
    go_wp2_with fail
    with_reducible refine (l5Takes_any (w0 := w0) hX).mono ?_
    rw [hp.out]
    rintro e w2 ⟨rfl, e2⟩
    go_wp2_with fail
    go_ret2
    rw [hr.out, hv.out]
    exact ⟨_, rfl, ints_nil _ _ _, Ext.trans e2 inferInstance⟩
  | true =>
    obtain ⟨hk2, hn2, hl, hpg⟩ := pagB_in hp
    cases hm : plB n X P with
    | false =>
      have hr := hid (show pcB k n X P = false by rw [pcB, hp, hm]; rfl)
      have hv := hid (show lzR k n X P = [] by rw [lzR, hr.out]; rfl)
      replace hp := hid hp
      replace hm := hid hm
      go_enter Try.func18, Try.ntmps18
      go_wp2_with fail
      with_reducible refine (l5Takes_any (w0 := w0) hX).mono ?_
      rw [hp.out]
      rintro e w2 ⟨rfl, e2⟩
      have e02 : Ext w0 w2 := Ext.trans ‹Ext w0 w› e2
      go_wp2_with fail
      with_reducible refine (l5Plan_any (w0 := w0) (w := w2) hX hP hn).mono ?_
      rw [hm.out]
      rintro e w3 ⟨rfl, e3⟩
      go_wp2_with fail
      go_ret2
      rw [hr.out, hv.out]
      exact ⟨_, rfl, ints_nil _ _ _, Ext.trans e2 (Ext.trans e3 inferInstance)⟩
    | true =>
      have hr := hid (show pcB k n X P = rnB k X P X.length by rw [pcB, hp, hm]; rfl)
      have hpl : P.length = X.length := by
        simp only [plB, Bool.and_eq_true, decide_eq_true_eq] at hm
        exact hm.1
      have hX0 := hid (show ∀ s, s < X.length → 0 ≤ nth X s from fun s hs => by have := hpg s hs; omega)
      replace hp := hid hp
      replace hm := hid hm
      replace hpl := hid hpl
      replace hpg := hid hpg
      go_enter Try.func18, Try.ntmps18
      go_wp2_with fail
      with_reducible refine (l5Takes_any (w0 := w0) hX).mono ?_
      rw [hp.out]
      rintro e w2 ⟨rfl, e2⟩
      have e02 : Ext w0 w2 := Ext.trans ‹Ext w0 w› e2
      go_wp2_with fail
      with_reducible refine (l5Plan_any (w0 := w0) (w := w2) hX hP hn).mono ?_
      rw [hm.out]
      rintro e w3 ⟨rfl, e3⟩
      have e03 : Ext w0 w3 := Ext.trans e02 e3
      go_wp2_with fail
      with_reducible refine (l5Run_any (w0 := w0) (w := w3) hX hP hk2 hl hpl.out).mono ?_
      rintro e w4 ⟨u, rfl, hu, e4⟩
      have e04 : Ext w w4 := Ext.trans e2 (Ext.trans e3 e4)
      obtain ⟨f, hf⟩ : ∃ f, f = (if rnB k X P X.length then rnF X P X.length else 0) := ⟨_, rfl⟩
      rw [← hf]
      replace hf := hid hf
      cases hb : rnB k X P X.length with
      | false =>
        have hr2 := hid (show pcB k n X P = false by rw [hr.out, hb])
        have hv := hid (show lzR k n X P = [] by rw [lzR, hr2.out]; rfl)
        replace hb := hid hb
        clear hu
        go_wp2_with fail
        go_ret2
        rw [hr2.out, hv.out]
        exact ⟨_, rfl, ints_nil _ _ _, Ext.trans e04 inferInstance⟩
      | true =>
        have hr2 := hid (show pcB k n X P = true by rw [hr.out, hb])
        have hv := hid (show lzR k n X P = lzL k X P X.length by rw [lzR, hr2.out]; rfl)
        rw [hb] at hu
        have hu2 : IsRows w4 u (rnL X P X.length) := hu
        replace hb := hid hb
        clear hu
        have e0w4 : Ext w0 w4 := Ext.trans ‹Ext w0 w› e04
        go_wp2_with fail
        with_reducible refine (l5Lazy_any (w0 := w4) (w := w4) (hX.ext (e := e0w4)) hu2 hk2 hl hb.out hX0.out).mono ?_
        rintro e w5 ⟨d5, m5, rfl, h5, e5⟩
        go_wp2_with fail
        go_ret2
        rw [hr2.out, hv.out]
        exact ⟨_, rfl, h5, Ext.trans e04 e5⟩
end Go.Proofs.Ytkibmjenjgijmab
