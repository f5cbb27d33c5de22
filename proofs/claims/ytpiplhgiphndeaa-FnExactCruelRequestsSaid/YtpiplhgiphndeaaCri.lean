/- CruelRequests of the program. -/
import Derived.Test.YtpiplhgiphndeaaCru
namespace Go.Proofs.Ytpiplhgiphndeaa
open Go.RowKit

set_option maxHeartbeats 3200000 in
set_option maxRecDepth 100000 in
theorem implCru_any {v va : Value} {M : List (List Int)} {a : List Int} {n : Int} {w0 w : World} [Ext w0 w] (hm : IsMet w0 v M) (ha : IsInts w0 va a) (_hn : I64 n) :
    Calls Try.prog 26 #[v, va, .int .i64 n] w fun e w' => ∃ d0 m0, e = .returned (.tuple #[.slice d0 (crR M a n).length m0, .bool (crB M a n)]) ∧ Own w' w.heap.size [intRowOf 3 (.slice d0 (crR M a n).length m0) (crR M a n)] ∧ Ext w w' := by
  have hm' := hm
  obtain ⟨v1, rfl, hR⟩ := hm
  obtain ⟨a1, c1, rfl, l1⟩ := hR.form
  have ha' := ha
  obtain ⟨da, ma, rfl, la⟩ := ha.form
  have x0 : (w.alloc (.cells #[.slice a1 M.length c1] 29)).cell? ⟨w.heap.size, 0, none⟩ = some (.slice a1 M.length c1) := by go_simp
  have hnil : IsInts w0 (.slice none 0 0) [] := IsInts.nil w0
  cases hS : srvB M a [] with
  | false =>
    have hr := hid (cr_no (show crB M a n = false by rw [srv_nil] at hS; rw [crB, ← Bool.and_assoc, hS]; rfl))
    replace hS := hid hS
    go_enter Try.func26, Try.ntmps26
    go_wp2_with fail
    with_reducible refine (isServed_any (w0 := w0) hm' ha' hnil).mono ?_
    rw [hS.out]
    rintro e w1 ⟨rfl, e1⟩
    go_wp2_with fail
    go_ret2
    rw [hr.out.1, hr.out.2]
    exact ⟨_, _, rfl, (Own.nil _ _).cons_nil _ _, Ext.trans inferInstance e1⟩
  | true =>
    obtain ⟨hM, hk, hac0, _, _⟩ := srv_parts hS
    have hc : cfgB M.length a = true := (srvB_iff.1 hS).2.1
    have hMl := met_len hM
    have hM' := hid hM
    have hac' := hid hac0
    clear hac0
    replace hS := hid hS
    cases hin : inB n 0 60 with
    | false =>
      have hr := hid (cr_no (show crB M a n = false by simp [crB, hin]))
      clear hM hc
      replace hin := hid hin
      go_enter Try.func26, Try.ntmps26
      go_wp2_with fail
      with_reducible refine (isServed_any (w0 := w0) hm' ha' hnil).mono ?_
      rw [hS.out]
      rintro e w1 ⟨rfl, e1⟩
      have x1 := e1.cell x0
      go_wp2_with fail
      with_reducible refine (isLength_any _ _).mono ?_
      rw [hin.out]
      rintro e w5 ⟨rfl, rfl⟩
      go_wp2_with fail
      go_ret2
      rw [hr.out.1, hr.out.2]
      exact ⟨_, _, rfl, (Own.nil _ _).cons_nil _ _, Ext.trans inferInstance e1⟩
    | true =>
      have hni := inB_true.1 hin
      obtain ⟨nn, rfl⟩ := Int.eq_ofNat_of_zero_le hni.1
      by_cases hlt : a.length < M.length
      · have hr := hid (cr_yes (show crB M a nn = true by simp [crB, hM, hc, hin, hlt]))
        rw [Int.toNat_natCast] at hr
        have hle : decide (M.length ≤ a.length) = false := by simp; omega
        have hdst := hid (dst_of_met hM)
        have hgd := hid (fun (i : Nat) (hi : i ≤ 1000) => cr_good (M := M) (a := a) hdst.out hk.1 hk.2 hlt hac'.out i hi)
        have hms := hid (fun (i : Nat) (hi : i ≤ 1000) => cr_mis (M := M) (a := a) hdst.out hk.1 hk.2 hlt hac'.out hi)
        have hcl := hid (show ∀ c, c ∈ confs M.length a.length 0 → c.length = a.length ∧ ∀ x ∈ c, I64 x from fun c hc => by
          obtain ⟨h1, _, h3⟩ := confs_iff.1 hc
          exact ⟨h1, fun x hx => by have := h3 x hx; unfold I64; omega⟩)
        have h216 := confs_216 hMl.2 hk.2
        have hcp := confs_pos (k := a.length) hMl.1
        have hmv := hid (confs_mv hdst.out hk.2)
        have hasc := hid (confs_asc M.length a.length 0)
        obtain ⟨htl, htr⟩ := atR_lt hac'.out
        have hn60 : nn ≤ 60 := by omega
        clear hM hlt hni hc
        replace hin := hid hin
        go_enter Try.func26, Try.ntmps26
        go_wp2_with fail
        with_reducible refine (isServed_any (w0 := w0) hm' ha' hnil).mono ?_
        rw [hS.out]
        rintro e w1 ⟨rfl, e1⟩
        have x1 := e1.cell x0
        have e1w : Ext w w1 := Ext.trans inferInstance e1
        have e01 : Ext w0 w1 := Ext.trans ‹Ext w0 w› e1w
        clear x0
        go_wp2_with fail
        with_reducible refine (isLength_any _ _).mono ?_
        rw [hin.out]
        rintro e w5 ⟨rfl, rfl⟩
        go_wp2_with fail
        with_reducible refine (worksOf_any (w0 := w0) hm' hM'.out hk.1 hk.2).mono ?_
        rintro e wz ⟨uz, rfl, hW, ez⟩
        have e1z : Ext w wz := Ext.trans e1w ez
        have e0z : Ext w0 wz := Ext.trans ‹Ext w0 w› e1z
        clear x1
        obtain ⟨P, hPd⟩ : ∃ p, p = confs M.length a.length 0 := ⟨_, rfl⟩
        rw [← hPd] at hgd hms hcl h216 hr hcp hmv hasc htl htr hW hac'
        replace hPd := hid hPd
        have hW' := hW
        obtain ⟨bw, mv, pv, cv, rfl, h0, h1, h2, hRz, hPz, hCs⟩ := hW
        obtain ⟨t, ht⟩ : ∃ t, t = atR P a := ⟨_, rfl⟩
        rw [← ht] at htl htr
        have hat := hid ht.symm
        replace ht := hid ht
        have hcosl : (cosL M P).length = P.length := by simp [cosL]
        have hrow := hid (show row (cosL M P) t = wst M P a by
          rw [wst, ← htr]
          simp [row, cosL, htl])
        obtain ⟨aC, mC, rfl, lC⟩ := hCs.form
        obtain ⟨bC, oC, dr, mr, hdC, hcr, hrI, _⟩ := hCs.at (w' := wz) (k := t) (by rw [hcosl]; exact htl)
        cases hdC
        rw [hcosl] at h2
        clear hCs hcosl lC h0 h1 hRz hPz
        rw [hrow.out] at hcr hrI
        have hS0d := hid (show (crT M P a 0).2 = wst M P a from rfl)
        obtain ⟨S0, hS0⟩ : ∃ x, x = wst M P a := ⟨_, rfl⟩
        rw [← hS0] at hcr hrI hS0d
        replace hS0 := hid hS0
        obtain ⟨B, hB⟩ : ∃ b, b = wz.heap.size := ⟨_, rfl⟩
        have hEx := hid (show ∀ u, Below B wz u → Ext wz u from fun u h => ⟨by rw [← hB]; exact h⟩)
        have hBl := hid (show ∀ u, Ext wz u → B ≤ u.heap.size from fun u e => by rw [hB]; exact e.size)
        have hXb := hid (show ∀ u, Ext wz u → Below B wz u from fun u e => by rw [hB]; exact e.below)
        have hBw := hid (show w.heap.size ≤ B by rw [hB]; exact e1z.size)
        replace hB := hid hB
        have hwr := hid (show ∀ (i : Nat), i ≤ 1000 → ∀ x ∈ (crT M P a i).2, I64 x from fun i hi => good_i64 (hgd.out i hi).2 (by omega))
        have hwn := hid (show ∀ (i : Nat), i ≤ 1000 → (crT M P a i).2.length = P.length from fun i hi => (hgd.out i hi).2.1.1)
        have hwb := hid (show ∀ (i : Nat), i ≤ 1000 → ∀ j, j < P.length → 0 ≤ nth (crT M P a i).2 j ∧ nth (crT M P a i).2 j ≤ 1000000 from fun i hi j hj => by have := (hgd.out i hi).2.2 j hj; omega)
        go_wp2_with fail
        have hSx := hid (show ∀ u, Ext wz u → u.cell? ⟨bw, 2, none⟩ = some (.slice (some ⟨bC, oC, none⟩) P.length mC) ∧ u.cell? ⟨bC, oC + t, none⟩ = some (.slice dr S0.length mr) from fun u e => ⟨e.cell h2, e.cell hcr⟩)
        refine region_held_from (w0 := wz) (S := fun u => u.cell? ⟨bw, 2, none⟩ = some (.slice (some ⟨bC, oC, none⟩) P.length mC) ∧ u.cell? ⟨bC, oC + t, none⟩ = some (.slice dr S0.length mr)) (by kernel_rfl) hSx.out (fun wd ed hHeld0 => ?_)
        refine wpAnyH_take (i := 0) (v := .pointer (some ⟨bw, 0, none⟩)) rfl (by kernel_rfl) (by kernel_rfl) (by kernel_rfl) (fun _ _ _ h => h) (Or.inl ⟨by rfl, by intro wx hx; go_simp⟩) (by assumption) ?_
        try simp only [List.getElem_toArray, List.getElem_cons_zero, Act.put, List.setIfInBounds_toArray, List.set_cons_zero, List.set_cons_succ]
        refine wpAnyH_take (i := 1) (v := .pointer (some ⟨bw, 0, none⟩)) rfl (by kernel_rfl) (by kernel_rfl) (by kernel_rfl) (fun _ _ _ h => h) (Or.inl ⟨by rfl, by intro wx hx; go_simp⟩) (by assumption) ?_
        try simp only [List.getElem_toArray, List.getElem_cons_succ, List.getElem_cons_zero, Act.put, List.setIfInBounds_toArray, List.set_cons_zero, List.set_cons_succ]
        refine wpAnyH_take (i := 2) (v := .pointer (some ⟨bw, 2, none⟩)) rfl (by kernel_rfl) (by kernel_rfl) (by kernel_rfl) (fun _ _ _ h => h) (Or.inl ⟨by rfl, by intro wx hx; go_simp⟩) (by assumption) ?_
        try simp only [List.getElem_toArray, List.getElem_cons_succ, List.getElem_cons_zero, Act.put, List.setIfInBounds_toArray, List.set_cons_zero, List.set_cons_succ]
        refine wpAnyH_take (i := 3) (v := .slice (some ⟨bC, oC, none⟩) P.length mC) rfl (by kernel_rfl) (by kernel_rfl) (by kernel_rfl) (fun _ _ _ h => h) (Or.inl ⟨by rfl, by intro wx hx; obtain ⟨_, _⟩ := hx; go_simp⟩) (by assumption) ?_
        try simp only [List.getElem_toArray, List.getElem_cons_succ, List.getElem_cons_zero, Act.put, List.setIfInBounds_toArray, List.set_cons_zero, List.set_cons_succ]
        refine wpAnyH_take (i := 4) (v := .pointer (some ⟨bw, 0, none⟩)) rfl (by kernel_rfl) (by kernel_rfl) (by kernel_rfl) (fun _ _ _ h => h) (Or.inl ⟨by rfl, by intro wx hx; go_simp⟩) (by assumption) ?_
        try simp only [List.getElem_toArray, List.getElem_cons_succ, List.getElem_cons_zero, Act.put, List.setIfInBounds_toArray, List.set_cons_zero, List.set_cons_succ]
        refine wpAnyH_take (i := 5) (v := .slice da a.length ma) rfl (by kernel_rfl) (by kernel_rfl) (by kernel_rfl) (fun _ _ _ h => h) (Or.inl ⟨by rfl, by intro wx hx; go_simp⟩) (by assumption) ?_
        try simp only [List.getElem_toArray, List.getElem_cons_succ, List.getElem_cons_zero, Act.put, List.setIfInBounds_toArray, List.set_cons_zero, List.set_cons_succ]
        refine wpAnyH_ready (rs := [6]) (by kernel_rfl) (by simp) ?_
        refine AllReadyH.cons rfl (fun K hK => ?_) AllReadyH.nil
        go_simp
        go_at_call 65
        refine (index_any (w0 := wd) (w := wd) (hW'.ext (e := ed)) (ha'.ext (e := Ext.trans e0z ed)) hasc.out hac'.out (by omega)).mono ?_
        rw [hat.out]
        rintro e w5 ⟨rfl, rfl⟩
        go_wp2_with fail
        refine hK.out _ _ hHeld0 (fun _ => ?_)
        clear hK K
        try simp only [List.getElem_toArray, List.getElem_cons_succ, List.getElem_cons_zero, Act.put, List.setIfInBounds_toArray, List.set_cons_zero, List.set_cons_succ]
        refine wpAnyH_take (i := 7) (v := .pointer (some ⟨bC, oC + t, none⟩)) rfl (by kernel_rfl) (by kernel_rfl) (by kernel_rfl) (fun _ _ _ h => h) (Or.inl ⟨by rfl, by intro wx hx; go_simp⟩) (by assumption) ?_
        try simp only [List.getElem_toArray, List.getElem_cons_succ, List.getElem_cons_zero, Act.put, List.setIfInBounds_toArray, List.set_cons_zero, List.set_cons_succ]
        refine wpAnyH_take (i := 8) (v := .slice dr S0.length mr) rfl (by kernel_rfl) (by kernel_rfl) (by kernel_rfl) (fun _ _ _ h => h) (Or.inl ⟨by rfl, by intro wx hx; obtain ⟨_, _⟩ := hx; go_simp⟩) (by assumption) ?_
        try simp only [List.getElem_toArray, List.getElem_cons_succ, List.getElem_cons_zero, Act.put, List.setIfInBounds_toArray, List.set_cons_zero, List.set_cons_succ]
        refine wpAnyH_take (i := 9) (v := .slice dr S0.length mr) rfl (by kernel_rfl) (by kernel_rfl) (by kernel_rfl) (fun _ _ _ h => h) (Or.inl ⟨by rfl, by intro wx hx; go_simp⟩) (by assumption) ?_
        try simp only [List.getElem_toArray, List.getElem_cons_succ, List.getElem_cons_zero, Act.put, List.setIfInBounds_toArray, List.set_cons_zero, List.set_cons_succ]
        refine wpAnyH_done (by kernel_rfl) ?_ _
        clear h2 hcr
        have edz := hXb.out _ ed
        have own0 : Own (wd.alloc (.cells #[] 3)) B [intRowOf 3 (.slice (some ⟨wd.heap.size, 0, none⟩) ([] : List Int).length 0) []] := Own.litInts (hBl.out _ ed) rfl rfl (by simp) rfl
        have b0 : Below B wz (wd.alloc (.cells #[] 3)) := edz.alloc (hBl.out _ ed) _
        go_wp2_with fail
        go_loopw [1, 9, 10, 44] (fun av wv ov i wr => ∃ q : Nat, q ≤ nn ∧ i = .int .i64 q ∧ (∃ Z, Own wr B (intRowOf 3 ov (crL M P a q) :: Z) ∧ Hid (∀ u, Own u B Z → Below B wz u → IsInts u av (crT M P a q).1 ∧ IsInts u wv (crT M P a q).2)) ∧ Below B wz wr) (fun _ _ _ i _ => nn - (intOf i).toNat)
        case atStart => exact ⟨0, by omega, rfl, ⟨[], own0, fun u _ hu => ⟨ha'.ext (e := Ext.trans e0z (hEx.out _ hu)), by rw [hS0d.out]; exact hrI.ext (e := hEx.out _ hu)⟩⟩, b0⟩
        case round =>
          clear own0 b0
          obtain ⟨q, hq, rfl, ⟨Z, hown, hrd⟩, hb⟩ := hrel
          obtain ⟨wq, rfl⟩ : ∃ y : World, y = wr := ⟨_, rfl⟩
          have eq : Ext wz wq := hEx.out _ hb
          have e0q : Ext w0 wq := Ext.trans e0z eq
          have hBq := hBl.out _ eq
          obtain ⟨d0, n0, m0, hu10, hn0⟩ := own_formN hown
          subst hu10
          have hnq := hid (show n0 = q by rw [hn0.out, crL_len])
          obtain ⟨hA, hWi⟩ := hrd.out wq hown.tail hb
          clear hrd
          by_cases hlt : q < nn
          · have hgq := hgd.out q (by omega)
            have hAl := hcl.out _ hgq.1
            have hmq := hms.out q (by omega)
            have hrr := hid (show 0 ≤ ((misL (crT M P a q).1 : Nat) : Int) ∧ ((misL (crT M P a q).1 : Nat) : Int) < (M.length : Int) by omega)
            have hgN := hid (show GoodW M (confs M.length a.length 0) (crT M P a (q + 1)).2 300000 by
              rw [← hPd.out]
              exact (hgd.out (q + 1) (by omega)).2.mono (by omega))
            have hnw := hid (show wnxL M P (crT M P a q).2 ((misL (crT M P a q).1 : Nat) : Int) = (crT M P a (q + 1)).2 from rfl)
            have hsc := hid (show svC M (confs M.length a.length 0) (crT M P a (q + 1)).2 (crT M P a q).1 ((misL (crT M P a q).1 : Nat) : Int) = (crT M P a (q + 1)).1 by rw [← hPd.out]; rfl)
            have hAc := hid (show (crT M P a q).1 ∈ confs M.length a.length 0 by rw [← hPd.out]; exact hgq.1)
            have hTs := hid (show crL M P a (q + 1) = crL M P a q ++ [((misL (crT M P a q).1 : Nat) : Int)] from crL_succ)
            have hA2 := hid (hcl.out _ (hgd.out (q + 1) (by omega)).1)
            have hN2 := hid (show (crT M P a (q + 1)).2.length = P.length ∧ ∀ x ∈ (crT M P a (q + 1)).2, I64 x from ⟨hwn.out (q + 1) (by omega), hwr.out (q + 1) (by omega)⟩)
            have hWl := hid (hwn.out q (by omega))
            have hWb := hid (hwb.out q (by omega))
            have hA3 : (crT M P a q).1.length ≤ 3 := by omega
            have hTl : (crL M P a q).length ≤ 1000 := by rw [crL_len]; omega
            have hn1 : n0 ≤ 1000 := by have := hnq.out; omega
            have hmm := hid (fun (j : Nat) (h : j < misL (crT M P a q).1) => has_mis h)
            have hmn := hid (has_not (a := (crT M P a q).1))
            obtain ⟨T, hT⟩ : ∃ y, y = crT M P a q := ⟨_, rfl⟩
            rw [← hT] at hA hWi hrr hnw hsc hAc hTs hA3 hmq hAl hWl hWb hmm hmn
            obtain ⟨T2, hT2⟩ : ∃ y, y = crT M P a (q + 1) := ⟨_, rfl⟩
            rw [← hT2] at hgN hnw hsc hA2 hN2
            obtain ⟨A, W⟩ := T
            obtain ⟨A2, NW⟩ := T2
            simp only at hA hWi hrr hnw hsc hAc hTs hA3 hmq hAl hgN hA2 hN2 hWl hWb hmm hmn
            have hA2f := hid (show (crT M P a (q + 1)).1 = A2 by rw [← hT2])
            have hN2f := hid (show (crT M P a (q + 1)).2 = NW by rw [← hT2])
            replace hT := hid hT
            replace hT2 := hid hT2
            replace hAl := hid hAl
            obtain ⟨dA, mA, hAv, lA⟩ := hA.form
            subst hAv
            obtain ⟨dW, mW, hWv, lW⟩ := hWi.form
            subst hWv
            obtain ⟨L, hL⟩ : ∃ y, y = crL M P a q := ⟨_, rfl⟩
            rw [← hL] at hown hTs hTl hn0
            replace hL := hid hL
            generalize misL A = r at *
            go_wp2_with fail
            go_loop [11] (fun i => ∃ j : Nat, j ≤ r ∧ i = .int .i64 j) (fun i => r - (intOf i).toNat)
            case atStart => exact ⟨0, by omega, rfl⟩
            case round =>
              obtain ⟨j, hj, rfl⟩ := hrel
              by_cases hltj : j < r
              · have hh := hid (hmm.out j hltj)
                go_wp2_with fail
                with_reducible refine (sContains_any (w0 := wq) (w := wq) hA).mono ?_
                rw [hh.out]
                rintro e w7 ⟨rfl, rfl⟩
                go_wp2_with fail
                go_round
                case rel => exact ⟨j + 1, by omega, by go_num⟩
                case measure => simp [intOf]; omega
              · have hjr : j = r := by omega
                subst hjr
                go_wp2_with fail
                with_reducible refine (sContains_any (w0 := wq) (w := wq) hA).mono ?_
                rw [hmn.out]
                rintro e w7 ⟨rfl, rfl⟩
                go_wp2_with fail
                with_reducible refine (wnx_any (w0 := wq) (w := wq) (hW'.ext (w' := wq)) hWi hcp (by omega) hWl.out hWb.out hmv.out).mono ?_
                rw [hnw.out]
                rintro e w8 ⟨d8, m8, rfl, own8, e8⟩
                have hN : IsInts w8 (.slice d8 NW.length m8) NW := own8.reads (by unfold Short; rw [hN2.out.1]; omega) hN2.out.2
                have oj8 := Own.join hown own8 (hB := hBq)
                have hB8 : B ≤ w8.heap.size := Nat.le_trans hBq e8.size
                have hW8 := (hW'.ext (w' := wq)).ext (w' := w8)
                clear own8 hown
                go_wp2_with fail
                with_reducible refine (serve_any (w0 := w8) (w := w8) (by rw [← hPd.out]; exact hW8) hM'.out hN (hA.ext (w' := w8)) hk.1 hk.2 hAc.out hgN.out (by omega) hrr.out).mono ?_
                rw [hsc.out]
                rintro e w9 ⟨u9, rfl, own9, e9⟩
                have oj9 := Own.join oj8 own9 (hB := hB8)
                have hB9 : B ≤ w9.heap.size := Nat.le_trans hB8 e9.size
                have b9 : Below B wz w9 := (hb.trans (e8.below.mono hBq)).trans (e9.below.mono hB8)
                have ownL : Own w9 B (⟨3, 1, .slice d0 n0 m0, n0, L.map (Value.int .i64)⟩ :: [intRowOf 3 u9 A2, intRowOf 3 (.slice d8 NW.length m8) NW]) := by
                  have h := (oj9.perm (perm_d _ _ _ _)).sub (List.Sublist.cons_cons _ (List.Sublist.cons_cons _ (List.Sublist.cons_cons _ (List.nil_sublist _))))
                  rw [hn0.out] at h ⊢
                  exact h
                clear oj8 oj9 own9
                go_wp2_with (at_builtin; refine wpList_append1 rfl _ _ _ rfl elemInt rfl ownL hB9 rfl rfl (by omega) (by omega) ?_; intro v10 w10 ho hb10)
                have own10 := own_grow1 ho hn0.out
                go_roundw
                case rel => exact ⟨q + 1, by omega, by go_num, ⟨_, by rw [hTs.out]; exact own10, fun u hz _ => by
                  rw [hA2f.out, hN2f.out]
                  exact ⟨hz.reads (by unfold Short; have := hA2.out.1; omega) hA2.out.2, hz.tail.reads (by unfold Short; rw [hN2.out.1]; omega) hN2.out.2⟩⟩, b9.trans hb10⟩
                case measure => simp [intOf]; omega
          · have hqn : q = nn := by omega
            have hfin := hid (show Own wq B [intRowOf 3 (.slice d0 n0 m0) (crL M P a nn)] by
              rw [hqn] at hown
              exact hown.sub (List.Sublist.cons_cons _ (List.nil_sublist _)))
            have hnl : Hid (n0 = (crL M P a nn).length) := hid (by rw [hn0.out, hqn])
            replace hqn := hid hqn
            go_wp2_with fail
            go_ret2
            rw [hr.out.1, hr.out.2]
            rw [hnl.out] at hfin ⊢
            exact ⟨_, _, rfl, hfin.out.mono hBw.out, Ext.trans e1z eq⟩
      · have hr := hid (cr_no (show crB M a nn = false by simp [crB]; intro _ _ _; omega))
        have hle : decide (M.length ≤ a.length) = true := by simp; omega
        clear hM hc
        replace hin := hid hin
        go_enter Try.func26, Try.ntmps26
        go_wp2_with fail
        with_reducible refine (isServed_any (w0 := w0) hm' ha' hnil).mono ?_
        rw [hS.out]
        rintro e w1 ⟨rfl, e1⟩
        have x1 := e1.cell x0
        go_wp2_with fail
        with_reducible refine (isLength_any _ _).mono ?_
        rw [hin.out]
        rintro e w5 ⟨rfl, rfl⟩
        go_wp2_with fail
        go_ret2
        rw [hr.out.1, hr.out.2]
        exact ⟨_, _, rfl, (Own.nil _ _).cons_nil _ _, Ext.trans inferInstance e1⟩
end Go.Proofs.Ytpiplhgiphndeaa
