/- FromSupport, the program's: the function. -/
import Derived.Test.YtkibmjenjgijmaaFsJ
namespace Go.Proofs.Ytkibmjenjgijmaa
open Go.RowKit

set_option maxHeartbeats 3200000 in
set_option maxRecDepth 100000 in
theorem implFS_any {v vC vV : Value} {M C : List (List Int)} {V : List Int} {w0 w : World} [Ext w0 w] (hm : IsMet w0 v M) (hC : IsRows w0 vC C) (hV : IsInts w0 vV V) :
    Calls Try.prog 13 #[v, vC, vV] w fun e w' => ∃ u, e = .returned (.tuple #[u, .bool (fsB M C V)]) ∧ IsInts w' u (fsR M C V) ∧ Ext w w' := by
  have hm' := hm
  have hC' := hC
  have hV' := hV
  obtain ⟨v1, rfl, hR⟩ := hm
  obtain ⟨a1, c1, rfl, l1⟩ := hR.form
  obtain ⟨dC, mC, rfl, lC⟩ := hC.form
  obtain ⟨dV, mV, rfl, lV⟩ := hV.form
  go_enter Try.func13, Try.ntmps13
  go_upto_region 1 with fail
  have xm : ((w.alloc (.cells #[.slice a1 M.length c1] 26)).alloc (.cells #[.slice dC C.length mC] 24)).cell? ⟨w.heap.size, 0, none⟩ = some (.slice a1 M.length c1) := by go_simp
  have xc : ((w.alloc (.cells #[.slice a1 M.length c1] 26)).alloc (.cells #[.slice dC C.length mC] 24)).cell? ⟨w.heap.size + 1, 0, none⟩ = some (.slice dC C.length mC) := by go_simp
  have e1 : Ext w ((w.alloc (.cells #[.slice a1 M.length c1] 26)).alloc (.cells #[.slice dC C.length mC] 24)) := inferInstance
  obtain ⟨bc, hbc⟩ : ∃ z, z = w.heap.size + 1 := ⟨_, rfl⟩
  rw [← hbc] at xc ⊢
  replace hbc := hid hbc
  obtain ⟨bm, hbm⟩ : ∃ z, z = w.heap.size := ⟨_, rfl⟩
  rw [← hbm] at xm ⊢
  replace hbm := hid hbm
  generalize (w.alloc (.cells #[.slice a1 M.length c1] 26)).alloc (.cells #[.slice dC C.length mC] 24) = w1 at *
  have e01 : Ext w0 w1 := Ext.trans ‹Ext w0 w› e1
  go_wp2_with fail
  with_reducible refine (IsMetric_any (w0 := w0) hm').mono ?_
  cases hM0 : metB M with
  | false =>
    have hr := hid (fs_no (show fsI M C V = false by rw [fsI_def, hM0]; rfl))
    replace hM0 := hid hM0
    rintro e w2 ⟨rfl, e2⟩
    go_wp2_with fail
    go_ret2
    exact ⟨.slice none 0 0, ret_tuple2 rfl (by rw [hr.out.1]; rfl), by rw [hr.out.2]; exact IsInts.nil _, Ext.trans e1 e2⟩
  | true =>
    have hMl := met_len hM0
    rintro e w2 ⟨rfl, e2⟩
    have xm2 := e2.cell xm
    have xc2 := e2.cell xc
    have g2 : Ext w w2 := Ext.trans e1 e2
    have e02 : Ext w0 w2 := Ext.trans ‹Ext w0 w› g2
    clear xm xc
    replace hM0 := hid hM0
    go_wp2_with fail
    with_reducible refine (within_any (C.length : Int) 1 56 _).mono ?_
    cases h56 : inB C.length 1 56 with
    | false =>
      have hr := hid (fs_no (show fsI M C V = false by rw [fsI_def, hM0.out, h56]; rfl))
      replace h56 := hid h56
      rintro e w3 ⟨rfl, rfl⟩
      go_wp2_with fail
      go_ret2
      exact ⟨.slice none 0 0, ret_tuple2 rfl (by rw [hr.out.1]; rfl), by rw [hr.out.2]; exact IsInts.nil _, g2⟩
    | true =>
      have hCl := inB_true.1 h56
      rintro e w3 ⟨rfl, rfl⟩
      replace h56 := hid h56
      by_cases hl : V.length = C.length
      · have hne : ((V.length : Int) != (C.length : Int)) = false := by simp [hl]
        have hlid := hid hl
        clear hl
        go_wp2_with fail
        with_reducible refine (isSmall_any (w0 := w0) (w := w2) hV').mono ?_
        cases hsm : belowB 100000 V with
        | false =>
          have hr := hid (fs_no (show fsI M C V = false by rw [fsI_def, hM0.out, h56.out, hsm]; simp))
          replace hsm := hid hsm
          rintro e w4 ⟨rfl, e4⟩
          go_wp2_with fail
          go_ret2
          exact ⟨.slice none 0 0, ret_tuple2 rfl (by rw [hr.out.1]; rfl), by rw [hr.out.2]; exact IsInts.nil _, Ext.trans g2 e4⟩
        | true =>
          replace hsm := hid hsm
          rintro e w4 ⟨rfl, e4⟩
          have xm4 := e4.cell xm2
          have xc4 := e4.cell xc2
          have g4 : Ext w w4 := Ext.trans g2 e4
          have e04 : Ext w0 w4 := Ext.trans ‹Ext w0 w› g4
          clear xm2 xc2
          obtain ⟨gC, oC, d0, m0, hdC, hc0, hi0, _⟩ := hC'.at (w' := w4) (k := 0) (by omega)
          subst hdC
          rw [Nat.add_zero] at hc0
          have hall := hid (show ∀ (W : World), Ext w4 W → ∀ k, k < C.length → ∀ d m, IsInts w0 (.slice d (row C k).length m) (row C k) → Calls Try.prog 54 (#[.slice d (row C k).length m] ++ #[.pointer (some ⟨bm, 0, none⟩), .pointer (some ⟨bc, 0, none⟩)]) W fun e w' => e = .returned (.bool (fsBad M C (row C k))) ∧ Ext W w' from fun W hW k hk d m hrow => by
            have e0W : Ext w0 W := Ext.trans e04 hW
            exact fs1_any (w0 := w0) hm' hrow (by omega) (by omega) (hW.cell xm4) (hW.cell xc4) (hW.cell hc0))
          go_wp2_with fail
          refine (containsFuncRows_any (w0 := w0) hC' _ _ (fsBad M C) fs1_call hall.out).mono ?_
          cases hany : C.any (fsBad M C) with
          | true =>
            have hr := hid (fs_no (show fsI M C V = false by rw [fsI_def, hany]; simp))
            replace hany := hid hany
            rintro e w5 ⟨rfl, e5⟩
            go_wp2_with fail
            go_ret2
            exact ⟨.slice none 0 0, ret_tuple2 rfl (by rw [hr.out.1]; rfl), by rw [hr.out.2]; exact IsInts.nil _, Ext.trans g4 e5⟩
          | false =>
            have hok := hid (show fsOk M C V = true by rw [← fsI_ok, fsI_def, hM0.out, h56.out, hsm.out, hany, hlid.out]; simp)
            replace hany := hid hany
            rintro e w5 ⟨rfl, e5⟩
            have xm5 := e5.cell xm4
            have xc5 := e5.cell xc4
            have hc05 := e5.cell hc0
            have g5 : Ext w w5 := Ext.trans g4 e5
            have e05 : Ext w0 w5 := Ext.trans ‹Ext w0 w› g5
            obtain ⟨hd, hk, hx1, hx2, hcs⟩ := fs_all hok.out
            clear hx1 hx2
            obtain ⟨kn, hkn⟩ : ∃ z, z = (row C 0).length := ⟨_, rfl⟩
            have hfi := fi_fs hok.out
            have hfm := fun (x : List Int) (hx : x ∈ confs M.length (row C 0).length 0) => fs_mv hok.out hx
            rw [← hkn] at hk hcs hfi hfm hc05
            have h216 := confs_216 hMl.2 hk.2
            have hcp := confs_pos (k := kn) hMl.1
            have hasc := hid (confs_asc M.length kn 0)
            have hmv := hid (confs_mv hd hk.2)
            obtain ⟨P, hP⟩ : ∃ z, z = confs M.length kn 0 := ⟨_, rfl⟩
            have hworks := hid (fun (u : World) (e : Ext w0 u) => worksOf_any (w0 := w0) (w := u) hm' hM0.out hk.1 hk.2)
            rw [← hP] at h216 hcp hasc hmv hcs hfi hfm hworks
            have hfs := hid (fs_bel hok.out)
            have hfv := hid (fsV_i64 hok.out)
            have hk1 := hk.1
            have hk3 := hk.2
            replace hkn := hid hkn
            replace hP := hid hP
            replace hcs := hid hcs
            replace hfi := hid hfi
            replace hfm := hid hfm
            clear xm4 xc4 hc0 hi0 hd hk hall
            go_upto_region 3 with fail
            have hSx := hid (show ∀ u, Ext w5 u → u.cell? ⟨bm, 0, none⟩ = some (.slice a1 M.length c1) ∧ u.cell? ⟨bc, 0, none⟩ = some (.slice (some ⟨gC, oC, none⟩) C.length mC) ∧ u.cell? ⟨gC, oC, none⟩ = some (.slice d0 kn m0) from fun u e => ⟨e.cell xm5, e.cell xc5, e.cell hc05⟩)
            refine region_held_from (w0 := w5) (S := fun u => u.cell? ⟨bm, 0, none⟩ = some (.slice a1 M.length c1) ∧ u.cell? ⟨bc, 0, none⟩ = some (.slice (some ⟨gC, oC, none⟩) C.length mC) ∧ u.cell? ⟨gC, oC, none⟩ = some (.slice d0 kn m0)) (by kernel_rfl) hSx.out (fun wd ed hHeld0 => ?_)
            have e0d : Ext w0 wd := Ext.trans e05 ed
            refine wpAnyH_take (i := 0) (v := .agg #[.slice a1 M.length c1]) rfl (by kernel_rfl) (by kernel_rfl) (by kernel_rfl) (fun _ _ _ h => h) (Or.inl ⟨by rfl, by intro wx hx; obtain ⟨_, _, _⟩ := hx; go_simp⟩) (by assumption) ?_
            try simp only [List.getElem_toArray, List.getElem_cons_zero, Act.put, List.setIfInBounds_toArray, List.set_cons_zero, List.set_cons_succ]
            refine wpAnyH_take (i := 1) (v := .slice (some ⟨gC, oC, none⟩) C.length mC) rfl (by kernel_rfl) (by kernel_rfl) (by kernel_rfl) (fun _ _ _ h => h) (Or.inl ⟨by rfl, by intro wx hx; obtain ⟨_, _, _⟩ := hx; go_simp⟩) (by assumption) ?_
            try simp only [List.getElem_toArray, List.getElem_cons_succ, List.getElem_cons_zero, Act.put, List.setIfInBounds_toArray, List.set_cons_zero, List.set_cons_succ]
            refine wpAnyH_take (i := 2) (v := .pointer (some ⟨gC, oC, none⟩)) rfl (by kernel_rfl) (by kernel_rfl) (by kernel_rfl) (fun _ _ _ h => h) (Or.inl ⟨by rfl, by intro wx hx; (go_simp; intro hq; exfalso; have hq2 := congrArg List.length hq; rw [List.length_nil] at hq2; omega)⟩) (by assumption) ?_
            try simp only [List.getElem_toArray, List.getElem_cons_succ, List.getElem_cons_zero, Act.put, List.setIfInBounds_toArray, List.set_cons_zero, List.set_cons_succ]
            refine wpAnyH_take (i := 3) (v := .slice d0 kn m0) rfl (by kernel_rfl) (by kernel_rfl) (by kernel_rfl) (fun _ _ _ h => h) (Or.inl ⟨by rfl, by intro wx hx; obtain ⟨_, _, _⟩ := hx; go_simp⟩) (by assumption) ?_
            try simp only [List.getElem_toArray, List.getElem_cons_succ, List.getElem_cons_zero, Act.put, List.setIfInBounds_toArray, List.set_cons_zero, List.set_cons_succ]
            refine wpAnyH_take (i := 4) (v := .int .i64 kn) rfl (by kernel_rfl) (by kernel_rfl) (by kernel_rfl) (fun _ _ _ h => h) (Or.inl ⟨by rfl, by intro wx hx; go_simp⟩) (by assumption) ?_
            try simp only [List.getElem_toArray, List.getElem_cons_succ, List.getElem_cons_zero, Act.put, List.setIfInBounds_toArray, List.set_cons_zero, List.set_cons_succ]
            refine wpAnyH_ready (rs := [5]) (by kernel_rfl) (by simp) ?_
            refine AllReadyH.cons rfl (fun K hK => ?_) AllReadyH.nil
            go_simp
            go_at_call 56
            refine (hworks.out wd e0d).mono ?_
            rintro e w6 ⟨u6, rfl, hW, e6⟩
            have hS6 := hid (hSx.out w6 (Ext.trans ed e6))
            have g6 : Ext w w6 := Ext.trans g5 (Ext.trans ed e6)
            have e06 : Ext w0 w6 := Ext.trans ‹Ext w0 w› g6
            have hW' := hW
            obtain ⟨b, mv, pv, cv, rfl, h0, h1, h2, hMm, hPp, hCs⟩ := hW
            clear h0 hMm hworks hSx xm5 hc05
            go_wp2_with fail
            refine hK.out _ _ hS6.out (fun _ => ?_)
            clear hK K
            try simp only [List.getElem_toArray, List.getElem_cons_succ, List.getElem_cons_zero, Act.put, List.setIfInBounds_toArray, List.set_cons_zero, List.set_cons_succ]
            refine wpAnyH_take (i := 6) (v := .pointer (some ⟨b, 0, none⟩)) rfl (by kernel_rfl) (by kernel_rfl) (by kernel_rfl) (fun _ _ _ h => h) (Or.inl ⟨by rfl, by intro wx hx; go_simp⟩) (by assumption) ?_
            try simp only [List.getElem_toArray, List.getElem_cons_succ, List.getElem_cons_zero, Act.put, List.setIfInBounds_toArray, List.set_cons_zero, List.set_cons_succ]
            refine wpAnyH_done (by kernel_rfl) ?_ _
            have xc6 := hS6.out.2.1
            clear hS6 hHeld0
            obtain ⟨aP, cP, rfl, lP⟩ := hPp.form
            obtain ⟨aCs, cCs, rfl, lCs⟩ := hCs.form
            have hcl := hid (show (cosL M P).length = P.length by simp [cosL])
            have h1W : (w6.alloc (.cells #[.int .i64 1073741824] 3)).cell? ⟨b, 1, none⟩ = some (.slice aP P.length cP) := (show Ext w6 (w6.alloc (.cells #[.int .i64 1073741824] 3)) from inferInstance).cell h1
            go_wp2_with fail
            clear h1W
            generalize hWW : w6.alloc (.cells #[.int .i64 1073741824] 3) = W
            have eW : Ext w6 W := hWW ▸ inferInstance
            have hfar : IsInts W (.slice (some ⟨w6.heap.size, 0, none⟩) ([1073741824] : List Int).length 1) [1073741824] := by
              subst hWW
              exact (Own.litInts (W := w6) (B := 0) (e := 3) (xs := [1073741824]) (Nat.zero_le _) (by simp) rfl (by simp) rfl).reads (by unfold Short; simp) (by intro x hx; simp at hx; subst hx; unfold I64; omega)
            have eW0 : Ext w0 W := Ext.trans e06 eW
            clear hWW
            refine (sRepeatN_any (w0 := W) (n := P.length) hfar (by omega) (by omega)).mono ?_
            rintro e W1 ⟨od, om, rfl, own1, hb1⟩
            rw [List.length_replicate] at own1 ⊢
            have own : Own W1 W.heap.size [⟨3, 1, .slice od P.length om, P.length, (fiL M C P V 0 0).map (Value.int .i64)⟩] := by
              rw [fiL_zero]
              unfold intRowOf at own1
              rw [List.length_replicate] at own1
              exact own1
            clear own1
            have hbW : Below W.heap.size W W1 := hb1.below
            have xcW := (Ext.trans eW hb1).cell xc6
            clear xc6
            go_wp2_with fail
            go_loopw [55] (fun i wr => ∃ j : Nat, j ≤ C.length ∧ i = .int .i64 j ∧ Own wr W.heap.size [⟨3, 1, .slice od P.length om, P.length, (fiL M C P V j 0).map (Value.int .i64)⟩] ∧ Below W.heap.size W wr) (fun i _ => C.length - (intOf i).toNat)
            case atStart => exact ⟨0, by omega, rfl, own, hbW⟩
            case round =>
              clear own hbW
              obtain ⟨j, hj, rfl, hown, hb0⟩ := hrel
              obtain ⟨wo, rfl⟩ : ∃ x : World, x = wr := ⟨_, rfl⟩
              have eWo : Ext W wo := ⟨hb0⟩
              have e0o : Ext w0 wo := Ext.trans eW0 eWo
              have e6o : Ext w6 wo := Ext.trans eW eWo
              by_cases hlt : j < C.length
              · obtain ⟨gC', oC', d5, m5, hd5, hc5, hr5, _⟩ := hC'.at (w' := wo) hlt
                cases hd5
                obtain ⟨hmem, hVj⟩ := hcs.out j hlt
                obtain ⟨htl, htr⟩ := atR_lt hmem
                obtain ⟨t, ht⟩ : ∃ t, t = atR P (row C j) := ⟨_, rfl⟩
                rw [← ht] at htl htr
                have hat := hid ht.symm
                replace ht := hid ht
                have hmem' := hid hmem
                have htr' := hid htr
                have hVl : j < V.length := by rw [hlid.out]; exact hlt
                have hWo := hW'.ext (e := e6o)
                have hr5o := hr5.ext (w' := wo)
                have hfull := hid (fiL_full (M := M) (C := C) (P := P) (V := V) (j := j))
                obtain ⟨A, hA⟩ : ∃ z, z = row C j := ⟨_, rfl⟩
                rw [← hA] at hc5 hr5 hr5o hat hmem' htr'
                clear hmem htr
                replace hA := hid hA
                go_wp2_with fail
                refine (index_any (w0 := wo) (w := wo) hWo hr5o hasc.out hmem'.out (by omega)).mono ?_
                rw [hat.out]
                rintro e w9 ⟨rfl, rfl⟩
                have hlC : t < (cosL M P).length := by rw [hcl.out]; exact htl
                go_wp2
                go_loopw [65] (fun i wi => ∃ x : Nat, x ≤ P.length ∧ i = .int .i64 x ∧ Own wi W.heap.size [⟨3, 1, .slice od P.length om, P.length, (fiL M C P V j x).map (Value.int .i64)⟩] ∧ Below W.heap.size W wi) (fun i _ => P.length - (intOf i).toNat)
                case atStart => exact ⟨0, by omega, rfl, hown, hb0⟩
                case round =>
                  obtain ⟨x, hxl, rfl, hown2, hb3⟩ := hrel
                  by_cases hltx : x < P.length
                  · have eWr : Ext W wr := ⟨hb3⟩
                    have e0 : Ext w0 wr := Ext.trans eW0 eWr
                    have e6r : Ext w6 wr := Ext.trans eW eWr
                    have y2 := e6r.cell h2
                    obtain ⟨g, rfl⟩ := hown2.at hltx
                    have hf := hown2.frozenAt x
                    have hc := hown2.cellAt (w' := wr) hltx
                    have hcx : ((fiL M C P V j x).map (Value.int .i64)).getD x undef = .int .i64 (fiAt M C V (row P x) j) := by
                      have e := nth_fiL (M := M) (C := C) (V := V) (j := j) (x := x) hltx
                      rw [if_neg (by omega)] at e
                      rw [← e]
                      simp [nth, fiL_length, hltx]
                    rw [hcx] at hc
                    clear hcx
                    have hset := hid (fiL_set (M := M) (C := C) (V := V) (j := j) hltx)
                    have hfx := hfm.out (row P x) (row_mem hltx)
                    have hcur := fi_in (M := M) (C := C) (V := V) (x := row P x) (fun t ht => by have := hfx t ht; omega) j hj
                    have hq := hfx j hlt
                    obtain ⟨b4, o4, hd4, hc4⟩ := hV'.at (w' := wr) hVl
                    subst hd4
                    obtain ⟨b7, o7, d7, m7, hd7, hc7, hr7, _⟩ := hCs.at (w' := wr) hlC
                    subst hd7
                    obtain ⟨hrl, hrn⟩ := cosL_at (M := M) htl hltx
                    rw [hrl] at hr7 hc7
                    replace hrl := hid hrl
                    obtain ⟨b8, o8, hd8, hc8⟩ := hr7.at (w' := wr) (k := x) (by rw [hrl.out]; exact hltx)
                    subst hd8
                    rw [hrn, htr'.out, hA.out] at hc8
                    clear hrn
                    obtain ⟨f2, hf2⟩ : ∃ z, z = fiAt M C V (row P x) (j + 1) := ⟨_, rfl⟩
                    have hmin := hid (show f2 = if nth V j + mvC M (row C j) (row P x) < fiAt M C V (row P x) j then nth V j + mvC M (row C j) (row P x) else fiAt M C V (row P x) j from hf2)
                    rw [← hf2] at hset
                    replace hf2 := hid hf2
                    generalize fiAt M C V (row P x) j = cu at *
                    generalize mvC M (row C j) (row P x) = mv1 at *
                    generalize nth V j = vj at *
                    have hgB := hown2.lt.1
                    by_cases hlc : vj + mv1 < cu
                    · have hm2 := hid (show f2 = min cu (vj + mv1) by rw [hmin.out, if_pos hlc]; omega)
                      clear hmin
                      go_upto_region 12 with fail
                      go_still_tail 23, (by kernel_rfl)
                      change wpList _ _ _ _ _ wr.drew
                      have hfd : wr.drew.frozen? ⟨g, x, none⟩ = false := hf
                      have hcd : wr.drew.cell? ⟨g, x, none⟩ = some (.int .i64 cu) := hc
                      go_wp2
                      go_roundw
                      case rel =>
                        refine ⟨x + 1, by omega, by go_num, ?_, hb3.drew.setCell hgB _⟩
                        have h := (hown2.ext (w' := wr.drew)).set x (.int .i64 f2)
                        rw [hset.out] at h
                        rw [hm2.out] at h
                        exact h
                      case measure => simp [intOf]; omega
                    · have hm2 := hid (show f2 = min cu (vj + mv1) by rw [hmin.out, if_neg hlc]; omega)
                      clear hmin
                      go_upto_region 12 with fail
                      go_still_tail 23, (by kernel_rfl)
                      change wpList _ _ _ _ _ wr.drew
                      have hfd : wr.drew.frozen? ⟨g, x, none⟩ = false := hf
                      have hcd : wr.drew.cell? ⟨g, x, none⟩ = some (.int .i64 cu) := hc
                      go_wp2
                      go_roundw
                      case rel =>
                        refine ⟨x + 1, by omega, by go_num, ?_, hb3.drew.setCell hgB _⟩
                        have h := (hown2.ext (w' := wr.drew)).set x (.int .i64 f2)
                        rw [hset.out] at h
                        rw [hm2.out] at h
                        exact h
                      case measure => simp [intOf]; omega
                  · have hxe : x = P.length := by omega
                    subst hxe
                    rw [hfull.out] at hown2
                    go_wp2
                    go_roundw
                    case rel => exact ⟨j + 1, by omega, by go_num, hown2, hb3⟩
                    case measure => simp [intOf]; omega
              · have hje : j = C.length := by omega
                subst hje
                rw [hfi.out] at hown
                have hFl : (fsV M C V).length = P.length := by rw [← hfi.out, fiL_length]
                obtain ⟨F, hF⟩ : ∃ z, z = fsV M C V := ⟨_, rfl⟩
                rw [← hF] at hown hFl
                have hFi : IsInts wo (.slice od F.length om) F := by
                  have h : Own wo W.heap.size [intRowOf 3 (.slice od F.length om) F] := by
                    unfold intRowOf
                    rw [hFl]
                    exact hown
                  exact h.reads (by unfold Short; rw [hFl]; omega) (fun y hy => by rw [hF] at hy; have := hfv.out y hy; unfold I64; omega)
                have hfs2 := hfs.out
                rw [← hF] at hfs2
                have hF' := hid hF
                have hFl' := hid hFl
                clear hF
                have gend : Ext w wo := Ext.trans g6 e6o
                rw [← hFl] at *
                clear hFl
                go_wp2_with fail
                with_reducible refine (isSmall_any (w0 := wo) (w := wo) hFi).mono ?_
                rw [hfs2]
                rintro e w9 ⟨rfl, e9⟩
                cases hB : fsB M C V with
                | false =>
                  have hr := hid (show fsR M C V = [] by rw [fsR, hB]; rfl)
                  replace hB := hid hB
                  replace hfs2 := hid hfs2
                  go_wp2_with fail
                  go_ret2
                  exact ⟨.slice none 0 0, ret_tuple2 rfl (by rw [hB.out]; rfl), by rw [hr.out]; exact IsInts.nil _, Ext.trans gend e9⟩
                | true =>
                  have hr := hid (show fsR M C V = F by rw [fsR, hB, hF'.out]; rfl)
                  replace hB := hid hB
                  replace hfs2 := hid hfs2
                  have hFi9 := hFi.ext (w' := w9)
                  go_wp2_with fail
                  go_ret2
                  exact ⟨_, ret_tuple2 rfl (by rw [hB.out]; rfl), by rw [hr.out]; exact hFi9, Ext.trans gend e9⟩
      · have hne : ((V.length : Int) != (C.length : Int)) = true := by simp; omega
        have hr := hid (fs_no (show fsI M C V = false by rw [fsI_def, show decide (V.length = C.length) = false from decide_eq_false hl]; simp))
        replace hl := hid hl
        go_wp2_with fail
        go_ret2
        exact ⟨.slice none 0 0, ret_tuple2 rfl (by rw [hr.out.1]; rfl), by rw [hr.out.2]; exact IsInts.nil _, g2⟩
end Go.Proofs.Ytkibmjenjgijmaa
