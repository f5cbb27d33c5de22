/- 'laws.FnCacheForms': for every code the law returns true. -/
import Derived.Test.YtaphnkgjcmneoaaGreatDoorVch
import Derived.Test.YtaphnkgjcmneoaaGreatDoorPackB
import Derived.Test.YtaphnkgjcmneoaaGreatDoorCiy
import Derived.Test.YtaphnkgjcmneoaaGreatDoorCjb
namespace Go.Proofs.YtaphnkgjcmneoaaGreatDoor
open Go.RowKit

theorem pcV_back {n p z h : Int} {P M : List Int} (hc : caB n p z P M h = true) : (pcV n (caL p z P M h)) = (p, z, P, M, h) ∧ pcOk n (caL p z P M h) = true := by
  obtain ⟨b1, b2, b3, b4⟩ := pc_back hc
  refine ⟨?_, b1⟩
  unfold pcV
  rw [if_pos b1, b2]
  simp only
  rw [b3, b4]
set_option maxHeartbeats 6400000 in
set_option maxRecDepth 100000 in
theorem lawFnCacheForms_any {v : Value} {nb : Nat} {w : World} (hc : IsCode w v nb) (ht : Tens w) (he : Errs w) (hmo : Most w) :
    Calls Tryz.prog 3 #[v] w fun e w' => e = .returned (.bool true) ∧ Ext w w' := by
  have hc' := hc
  obtain ⟨ac, cc, rfl⟩ := hc.bytes.form
  replace ht := hid ht
  replace he := hid he
  replace hmo := hid hmo
  by_cases hbig : 65536 < nb
  · have hd := hid (decide_eq_true hbig)
    go_enter Tryz.func3, Tryz.ntmps3
    go_wp2_with fail
    refine (vBig_l hc'.bytes).mono ?_
    rw [hd.out]
    rintro e w1 ⟨rfl, rfl⟩
    go_wp2_with fail
    go_ret
    exact ⟨rfl, Ext.refl _⟩
  · have hd := hid (decide_eq_false hbig)
    have hnb : nb ≤ 65536 := by omega
    have cz : Ext w w := Ext.refl _
    go_enter Tryz.func3, Tryz.ntmps3
    go_wp2_with fail
    refine (vBig_l hc'.bytes).mono ?_
    rw [hd.out]
    rintro e wz ⟨rfl, rfl⟩
    go_wp2_with fail
    refine (drawIc_any (w0 := w) (w := w) hc'.bytes).mono ?_
    rintro e w1 ⟨n, p, z, P, M, h, dP, cP, dM, cM, rfl, hn, k, hP0, hM0, e1⟩
    obtain ⟨W1, hW1⟩ : ∃ W, W = w1.alloc (.cells #[.int .i64 p, .int .i64 z, .slice dP P.length cP, .slice dM M.length cM, .int .i64 h] 26) := ⟨_, rfl⟩
    have eW1 : Ext w1 W1 := by rw [hW1]; infer_instance
    have hX : BX W1 w1.heap.size (.int .i64 p) (.int .i64 z) (.slice dP P.length cP) (.slice dM M.length cM) (.int .i64 h) := by rw [hW1]; exact BX.alloc _ _ _ _ _ _ _
    go_upto_region 4 with fail
    rw [← hW1]
    replace hW1 := hid hW1
    have hP := hP0.ext (w' := W1)
    have hM := hM0.ext (w' := W1)
    replace cz := Ext.trans e1 eW1
    clear hP0 hM0 eW1 e1
    obtain ⟨a, ha⟩ : ∃ a, a = w1.heap.size := ⟨_, rfl⟩
    rw [← ha] at hX ⊢
    replace ha := hid ha
    obtain ⟨Q, hQ⟩ : ∃ q, q = caB n p z P M h := ⟨_, rfl⟩
    obtain ⟨L1, hL1⟩ : ∃ q, q = ctL n p z P M h := ⟨_, rfl⟩
    have hL1l : L1.length ≤ 400 := by
      rw [hL1]
      unfold ctL
      split
      · rename_i hh
        exact k.text hh
      · simp
    obtain ⟨S1, hS1⟩ : ∃ q, q = bsOf L1 := ⟨_, rfl⟩
    have hPl : P.length ≤ 100000 := by have := k.iP.1; omega
    have qQ : (Q != Q) = false := by simp
    have hI1 := fun (u : World) (e : Ext W1 u) (h1 : Tens u) (h2 : Most u) => @implCt_any n p z h P M dP dM cP cM W1 u e hP hM h1 h2
    have hI2 := fun (u : World) (e : Ext W1 u) => @specCt_any n p z h P M dP dM cP cM W1 u e hP hM hPl
    have hI3 := fun (u : World) (e : Ext W1 u) => @isCache_any n p z h P M dP dM cP cM W1 u e hP hM
    have hI4 := fun (u : World) (e : Ext W1 u) => @specIc_any n p z h P M dP dM cP cM W1 u e hP hM hPl
    rw [← hL1, ← hS1, ← hQ] at hI1 hI2
    rw [← hQ] at hI3 hI4
    replace hI1 := hid hI1
    replace hI2 := hid hI2
    replace hI3 := hid hI3
    replace hI4 := hid hI4
    replace hQ := hid hQ
    replace hL1 := hid hL1
    replace hS1 := hid hS1
    have hX' := hX
    obtain ⟨x0, x1, x2, x3, x4, -, -, -, -, -⟩ := hX'
    have htc := hid (ht.out.ext (w' := W1))
    have hmc := hid (hmo.out.ext (w' := W1))
    go_wp2_with fail
    with_reducible refine (hI1.out W1 (Ext.refl _) htc.out hmc.out).mono ?_
    rintro e w2 ⟨rfl, e2⟩
    clear htc hmc
    clear x0 x1 x2 x3 x4
    replace cz := Ext.trans cz e2
    replace hX := hX.ext e2
    have hX' := hX
    obtain ⟨x0, x1, x2, x3, x4, -, -, -, -, -⟩ := hX'
    go_wp2_with fail
    with_reducible refine (hI2.out w2 e2).mono ?_
    rintro e w3 ⟨rfl, e3⟩
    have e13 : Ext W1 w3 := Ext.trans e2 e3
    clear x0 x1 x2 x3 x4
    replace cz := Ext.trans cz e3
    replace hX := hX.ext e3
    have hX' := hX
    obtain ⟨x0, x1, x2, x3, x4, -, -, -, -, -⟩ := hX'
    go_upto_region 6 with fail
    clear x0 x1 x2 x3 x4
    refine region_held_from (w0 := w3) (S := fun u => u.cell? ⟨a, 0, none⟩ = some (.int .i64 p) ∧ u.cell? ⟨a, 1, none⟩ = some (.int .i64 z) ∧ u.cell? ⟨a, 2, none⟩ = some (.slice dP P.length cP) ∧ u.cell? ⟨a, 3, none⟩ = some (.slice dM M.length cM) ∧ u.cell? ⟨a, 4, none⟩ = some (.int .i64 h)) (by kernel_rfl) (fun u e => ⟨e.cell hX.c0, e.cell hX.c1, e.cell hX.c2, e.cell hX.c3, e.cell hX.c4⟩) (fun wd ed hHeld0 => ?_)
    replace cz := Ext.trans cz ed
    replace hX := hX.ext ed
    have e1d : Ext W1 wd := Ext.trans e13 ed
    clear e2 e3 e13 ed
    refine wpAnyH_take (i := 0) (v := .int .i64 n) rfl (by kernel_rfl) (by kernel_rfl) (by kernel_rfl) (fun _ _ _ h => h) (Or.inl ⟨by rfl, by intro wx hx; go_simp⟩) (by assumption) ?_
    try simp only [List.getElem_toArray, List.getElem_cons_zero, Act.put, List.setIfInBounds_toArray, List.set_cons_zero, List.set_cons_succ]
    refine wpAnyH_take (i := 1) (v := .agg #[.int .i64 p, .int .i64 z, .slice dP P.length cP, .slice dM M.length cM, .int .i64 h]) rfl (by kernel_rfl) (by kernel_rfl) (by kernel_rfl) (fun _ _ _ h => h) (Or.inl ⟨by rfl, by intro wx hx; obtain ⟨_, _, _, _, _⟩ := hx; go_simp⟩) (by assumption) ?_
    try simp only [List.getElem_toArray, List.getElem_cons_succ, List.getElem_cons_zero, Act.put, List.setIfInBounds_toArray, List.set_cons_zero, List.set_cons_succ]
    refine wpAnyH_take (i := 3) (v := .int .i64 n) rfl (by kernel_rfl) (by kernel_rfl) (by kernel_rfl) (fun _ _ _ h => h) (Or.inl ⟨by rfl, by intro wx hx; go_simp⟩) (by assumption) ?_
    try simp only [List.getElem_toArray, List.getElem_cons_succ, List.getElem_cons_zero, Act.put, List.setIfInBounds_toArray, List.set_cons_zero, List.set_cons_succ]
    refine wpAnyH_take (i := 4) (v := .agg #[.int .i64 p, .int .i64 z, .slice dP P.length cP, .slice dM M.length cM, .int .i64 h]) rfl (by kernel_rfl) (by kernel_rfl) (by kernel_rfl) (fun _ _ _ h => h) (Or.inl ⟨by rfl, by intro wx hx; obtain ⟨_, _, _, _, _⟩ := hx; go_simp⟩) (by assumption) ?_
    try simp only [List.getElem_toArray, List.getElem_cons_succ, List.getElem_cons_zero, Act.put, List.setIfInBounds_toArray, List.set_cons_zero, List.set_cons_succ]
    refine wpAnyH_ready (rs := [2]) (by kernel_rfl) (by simp) ?_
    refine AllReadyH.cons rfl (fun K hK => ?_) AllReadyH.nil
    go_simp
    with_reducible refine (hI3.out wd e1d).mono ?_
    rintro e w4 ⟨rfl, e4⟩
    replace cz := Ext.trans cz e4
    replace hX := hX.ext e4
    have e14 : Ext W1 w4 := Ext.trans e1d e4
    have hSx := (show w4.cell? ⟨a, 0, none⟩ = some (.int .i64 p) ∧ w4.cell? ⟨a, 1, none⟩ = some (.int .i64 z) ∧ w4.cell? ⟨a, 2, none⟩ = some (.slice dP P.length cP) ∧ w4.cell? ⟨a, 3, none⟩ = some (.slice dM M.length cM) ∧ w4.cell? ⟨a, 4, none⟩ = some (.int .i64 h) from ⟨hX.c0, hX.c1, hX.c2, hX.c3, hX.c4⟩)
    refine hK.out _ _ hSx (fun _ => ?_)
    clear hK K
    try simp only [List.getElem_toArray, List.getElem_cons_succ, List.getElem_cons_zero, Act.put, List.setIfInBounds_toArray, List.set_cons_zero, List.set_cons_succ]
    refine wpAnyH_ready (rs := [5]) (by kernel_rfl) (by simp) ?_
    refine AllReadyH.cons rfl (fun K hK => ?_) AllReadyH.nil
    go_simp
    with_reducible refine (hI4.out w4 e14).mono ?_
    rintro e w5 ⟨rfl, e5⟩
    replace cz := Ext.trans cz e5
    replace hX := hX.ext e5
    have e15 : Ext W1 w5 := Ext.trans e14 e5
    clear hSx
    have hSx := (show w5.cell? ⟨a, 0, none⟩ = some (.int .i64 p) ∧ w5.cell? ⟨a, 1, none⟩ = some (.int .i64 z) ∧ w5.cell? ⟨a, 2, none⟩ = some (.slice dP P.length cP) ∧ w5.cell? ⟨a, 3, none⟩ = some (.slice dM M.length cM) ∧ w5.cell? ⟨a, 4, none⟩ = some (.int .i64 h) from ⟨hX.c0, hX.c1, hX.c2, hX.c3, hX.c4⟩)
    refine hK.out _ _ hSx (fun _ => ?_)
    clear hK K
    try simp only [List.getElem_toArray, List.getElem_cons_succ, List.getElem_cons_zero, Act.put, List.setIfInBounds_toArray, List.set_cons_zero, List.set_cons_succ]
    refine wpAnyH_take (i := 6) (v := .bool false) rfl (by kernel_rfl) (by kernel_rfl) (by kernel_rfl) (fun _ _ _ h => h) (Or.inl ⟨by rfl, by intro wx hx; go_simp⟩) (by assumption) ?_
    try simp only [List.getElem_toArray, List.getElem_cons_succ, List.getElem_cons_zero, Act.put, List.setIfInBounds_toArray, List.set_cons_zero, List.set_cons_succ]
    refine wpAnyH_take (i := 7) (v := .bool false) rfl (by kernel_rfl) (by kernel_rfl) (by kernel_rfl) (fun _ _ _ h => h) (Or.inl ⟨by rfl, by intro wx hx; go_simp⟩) (by assumption) ?_
    try simp only [List.getElem_toArray, List.getElem_cons_succ, List.getElem_cons_zero, Act.put, List.setIfInBounds_toArray, List.set_cons_zero, List.set_cons_succ]
    refine wpAnyH_take (i := 8) (v := .bool Q) rfl (by kernel_rfl) (by kernel_rfl) (by kernel_rfl) (fun _ _ _ h => h) (Or.inl ⟨by rfl, by intro wx hx; go_simp⟩) (by assumption) ?_
    try simp only [List.getElem_toArray, List.getElem_cons_succ, List.getElem_cons_zero, Act.put, List.setIfInBounds_toArray, List.set_cons_zero, List.set_cons_succ]
    refine wpAnyH_take (i := 9) (v := .int .i64 n) rfl (by kernel_rfl) (by kernel_rfl) (by kernel_rfl) (fun _ _ _ h => h) (Or.inl ⟨by rfl, by intro wx hx; go_simp⟩) (by assumption) ?_
    try simp only [List.getElem_toArray, List.getElem_cons_succ, List.getElem_cons_zero, Act.put, List.setIfInBounds_toArray, List.set_cons_zero, List.set_cons_succ]
    refine wpAnyH_take (i := 10) (v := .agg #[.int .i64 p, .int .i64 z, .slice dP P.length cP, .slice dM M.length cM, .int .i64 h]) rfl (by kernel_rfl) (by kernel_rfl) (by kernel_rfl) (fun _ _ _ h => h) (Or.inl ⟨by rfl, by intro wx hx; obtain ⟨_, _, _, _, _⟩ := hx; go_simp⟩) (by assumption) ?_
    try simp only [List.getElem_toArray, List.getElem_cons_succ, List.getElem_cons_zero, Act.put, List.setIfInBounds_toArray, List.set_cons_zero, List.set_cons_succ]
    refine wpAnyH_ready (rs := [11]) (by kernel_rfl) (by simp) ?_
    refine AllReadyH.cons rfl (fun K hK => ?_) AllReadyH.nil
    go_simp
    with_reducible refine (hI3.out w5 e15).mono ?_
    rintro e w6 ⟨rfl, e6⟩
    replace cz := Ext.trans cz e6
    replace hX := hX.ext e6
    have e16 : Ext W1 w6 := Ext.trans e15 e6
    clear hSx
    have hSx := (show w6.cell? ⟨a, 0, none⟩ = some (.int .i64 p) ∧ w6.cell? ⟨a, 1, none⟩ = some (.int .i64 z) ∧ w6.cell? ⟨a, 2, none⟩ = some (.slice dP P.length cP) ∧ w6.cell? ⟨a, 3, none⟩ = some (.slice dM M.length cM) ∧ w6.cell? ⟨a, 4, none⟩ = some (.int .i64 h) from ⟨hX.c0, hX.c1, hX.c2, hX.c3, hX.c4⟩)
    refine hK.out _ _ hSx (fun _ => ?_)
    clear hK K
    try simp only [List.getElem_toArray, List.getElem_cons_succ, List.getElem_cons_zero, Act.put, List.setIfInBounds_toArray, List.set_cons_zero, List.set_cons_succ]
    refine wpAnyH_take (i := 12) (v := .bool false) rfl (by kernel_rfl) (by kernel_rfl) (by kernel_rfl) (fun _ _ _ h => h) (Or.inl ⟨by rfl, by intro wx hx; go_simp⟩) (by assumption) ?_
    try simp only [List.getElem_toArray, List.getElem_cons_succ, List.getElem_cons_zero, Act.put, List.setIfInBounds_toArray, List.set_cons_zero, List.set_cons_succ]
    refine wpAnyH_take (i := 13) (v := .bool false) rfl (by kernel_rfl) (by kernel_rfl) (by kernel_rfl) (fun _ _ _ h => h) (Or.inl ⟨by rfl, by intro wx hx; go_simp⟩) (by assumption) ?_
    try simp only [List.getElem_toArray, List.getElem_cons_succ, List.getElem_cons_zero, Act.put, List.setIfInBounds_toArray, List.set_cons_zero, List.set_cons_succ]
    refine wpAnyH_take (i := 14) (v := .bool false) rfl (by kernel_rfl) (by kernel_rfl) (by kernel_rfl) (fun _ _ _ h => h) (Or.inl ⟨by rfl, by intro wx hx; go_simp⟩) (by assumption) ?_
    try simp only [List.getElem_toArray, List.getElem_cons_succ, List.getElem_cons_zero, Act.put, List.setIfInBounds_toArray, List.set_cons_zero, List.set_cons_succ]
    refine wpAnyH_take (i := 15) (v := .string S1) rfl (by kernel_rfl) (by kernel_rfl) (by kernel_rfl) (fun _ _ _ h => h) (Or.inl ⟨by rfl, by intro wx hx; go_simp⟩) (by assumption) ?_
    try simp only [List.getElem_toArray, List.getElem_cons_succ, List.getElem_cons_zero, Act.put, List.setIfInBounds_toArray, List.set_cons_zero, List.set_cons_succ]
    refine wpAnyH_take (i := 16) (v := .string S1) rfl (by kernel_rfl) (by kernel_rfl) (by kernel_rfl) (fun _ _ _ h => h) (Or.inl ⟨by rfl, by intro wx hx; go_simp⟩) (by assumption) ?_
    try simp only [List.getElem_toArray, List.getElem_cons_succ, List.getElem_cons_zero, Act.put, List.setIfInBounds_toArray, List.set_cons_zero, List.set_cons_succ]
    refine wpAnyH_take (i := 17) (v := .bool false) rfl (by kernel_rfl) (by kernel_rfl) (by kernel_rfl) (fun _ _ _ h => h) (Or.inl ⟨by rfl, by intro wx hx; go_simp⟩) (by assumption) ?_
    try simp only [List.getElem_toArray, List.getElem_cons_succ, List.getElem_cons_zero, Act.put, List.setIfInBounds_toArray, List.set_cons_zero, List.set_cons_succ]
    refine wpAnyH_take (i := 18) (v := .bool false) rfl (by kernel_rfl) (by kernel_rfl) (by kernel_rfl) (fun _ _ _ h => h) (Or.inl ⟨by rfl, by intro wx hx; go_simp⟩) (by assumption) ?_
    try simp only [List.getElem_toArray, List.getElem_cons_succ, List.getElem_cons_zero, Act.put, List.setIfInBounds_toArray, List.set_cons_zero, List.set_cons_succ]
    refine wpAnyH_take (i := 19) (v := .bool false) rfl (by kernel_rfl) (by kernel_rfl) (by kernel_rfl) (fun _ _ _ h => h) (Or.inl ⟨by rfl, by intro wx hx; go_simp⟩) (by assumption) ?_
    try simp only [List.getElem_toArray, List.getElem_cons_succ, List.getElem_cons_zero, Act.put, List.setIfInBounds_toArray, List.set_cons_zero, List.set_cons_succ]
    refine wpAnyH_take (i := 20) (v := .bool Q) rfl (by kernel_rfl) (by kernel_rfl) (by kernel_rfl) (fun _ _ _ h => h) (Or.inl ⟨by rfl, by intro wx hx; go_simp⟩) (by assumption) ?_
    try simp only [List.getElem_toArray, List.getElem_cons_succ, List.getElem_cons_zero, Act.put, List.setIfInBounds_toArray, List.set_cons_zero, List.set_cons_succ]
    refine wpAnyH_take (i := 21) (v := .bool Q) rfl (by kernel_rfl) (by kernel_rfl) (by kernel_rfl) (fun _ _ _ h => h) (Or.inl ⟨by rfl, by intro wx hx; go_simp⟩) (by assumption) ?_
    try simp only [List.getElem_toArray, List.getElem_cons_succ, List.getElem_cons_zero, Act.put, List.setIfInBounds_toArray, List.set_cons_zero, List.set_cons_succ]
    refine wpAnyH_take (i := 22) (v := .bool false) rfl (by kernel_rfl) (by kernel_rfl) (by kernel_rfl) (fun _ _ _ h => h) (Or.inl ⟨by rfl, by intro wx hx; go_simp⟩) (by assumption) ?_
    try simp only [List.getElem_toArray, List.getElem_cons_succ, List.getElem_cons_zero, Act.put, List.setIfInBounds_toArray, List.set_cons_zero, List.set_cons_succ]
    refine wpAnyH_take (i := 23) (v := .bool false) rfl (by kernel_rfl) (by kernel_rfl) (by kernel_rfl) (fun _ _ _ h => h) (Or.inl ⟨by rfl, by intro wx hx; go_simp⟩) (by assumption) ?_
    try simp only [List.getElem_toArray, List.getElem_cons_succ, List.getElem_cons_zero, Act.put, List.setIfInBounds_toArray, List.set_cons_zero, List.set_cons_succ]
    refine wpAnyH_done (by kernel_rfl) ?_ _
    clear hSx e14 e15 e1d e4 e5 e6
    obtain ⟨V1, hV1⟩ : ∃ V, V = pcV n L1 := ⟨_, rfl⟩
    obtain ⟨O1, hO1⟩ : ∃ O, O = pcOk n L1 := ⟨_, rfl⟩
    have hPc := fun (u : World) (h1 : Tens u) (h2 : Errs u) (h3 : Most u) => implPca_any (n := n) (L := L1) (w := u) (by omega) h1 h2 h3
    unfold PcPost at hPc
    rw [← hS1.out, ← hV1, ← hO1] at hPc
    replace hPc := hid hPc
    replace hV1 := hid hV1
    replace hO1 := hid hO1
    obtain ⟨p1, z1, P1, M1, h1⟩ := V1
    have htc := hid (ht.out.ext (w' := w6))
    have hec := hid (he.out.ext (w' := w6))
    have hmc := hid (hmo.out.ext (w' := w6))
    go_wp2_with fail
    with_reducible refine (hPc.out w6 htc.out hec.out hmc.out).mono ?_
    rintro e w7 ⟨d1, c1, d2, c2, P1', M1', hp1, hm1, rfl, iP1, iM1, e7⟩
    have hp1' : P1' = P1 := hp1
    have hm1' : M1' = M1 := hm1
    subst hp1' hm1'
    clear hp1 hm1 htc hec hmc
    obtain ⟨W7, hW7⟩ : ∃ W, W = w7.alloc (.cells #[.int .i64 p1, .int .i64 z1, .slice d1 P1'.length c1, .slice d2 M1'.length c2, .int .i64 h1] 26) := ⟨_, rfl⟩
    have eW7 : Ext w7 W7 := by rw [hW7]; infer_instance
    have hY : BX W7 w7.heap.size (.int .i64 p1) (.int .i64 z1) (.slice d1 P1'.length c1) (.slice d2 M1'.length c2) (.int .i64 h1) := by rw [hW7]; exact BX.alloc _ _ _ _ _ _ _
    have iP7 := iP1.ext (w' := W7)
    have iM7 := iM1.ext (w' := W7)
    replace cz := Ext.trans (Ext.trans cz e7) eW7
    replace hX := (hX.ext e7).ext eW7
    have e17 : Ext W1 W7 := Ext.trans (Ext.trans e16 e7) eW7
    have hP7 := hP.ext (e := e17)
    have hM7 := hM.ext (e := e17)
    clear iP1 iM1
    go_upto_region 9 with fail
    rw [← hW7]
    replace hW7 := hid hW7
    obtain ⟨b, hb⟩ : ∃ b, b = w7.heap.size := ⟨_, rfl⟩
    rw [← hb] at hY ⊢
    replace hb := hid hb
    clear e7 eW7 e16 e17
    go_cut [95] from 85 to 95 (fun bv wx => bv = .bool false ∧ Ext W7 wx)
    case first =>
      cases Q with
      | false =>
        go_wp2_with fail
        go_meet
        exact ⟨rfl, Ext.refl _⟩
      | true =>
        have hLL : L1 = caL p z P M h := by
          rw [hL1.out]
          unfold ctL
          rw [← hQ.out]
          rfl
        have hbk := pcV_back hQ.out.symm
        rw [← hLL, ← hV1.out, ← hO1.out] at hbk
        obtain ⟨hb1, hb2⟩ := hbk
        subst hb2
        cases hb1
        have hLL := hid hLL
        have hVc := hid (vCache_same (p := p) (z := z) (h := h) (w0 := W7) (w := W7) iP7 iM7 hP7 hM7)
        obtain ⟨x0, x1, x2, x3, x4, -, -, -, -, -⟩ := hX
        obtain ⟨y0, y1, y2, y3, y4, -, -, -, -, -⟩ := hY
        go_wp2_with fail
        with_reducible refine hVc.out.mono ?_
        rintro e wa ⟨rfl, ea⟩
        go_wp2_with fail
        go_meet
        exact ⟨rfl, ea⟩
    case rest =>
      obtain ⟨rfl, hcut⟩ := hcut
      obtain ⟨wg, rfl⟩ : ∃ y : World, y = wc := ⟨_, rfl⟩
      replace cz := Ext.trans cz hcut
      clear hX hY hP hM hP7 hM7 iP7 iM7 hcut hI1 hI2 hI3 hI4 hPc k qQ
      go_wp2_with fail
      refine (vCut_any (w0 := w) (w := wg) hc' (n := 1) (by omega) hnb).mono ?_
      rintro e w8 ⟨vc1, nc1, rfl, hcc1, e8⟩
      replace cz := Ext.trans cz e8
      obtain ⟨ac1, mc1, rfl⟩ := hcc1.form
      go_wp2_with fail
      refine (drawPca_any (w0 := w8) (w := w8) hcc1).mono ?_
      rintro e w9 ⟨n2, L2, rfl, hn2, hL2l, e9⟩
      replace cz := Ext.trans cz e9
      clear e8 e9 hcc1
      obtain ⟨S2, hS2⟩ : ∃ q, q = bsOf L2 := ⟨_, rfl⟩
      rw [← hS2]
      obtain ⟨V2, hV2⟩ : ∃ V, V = pcV n2 L2 := ⟨_, rfl⟩
      obtain ⟨O2, hO2⟩ : ∃ O, O = pcOk n2 L2 := ⟨_, rfl⟩
      have hPa := fun (u : World) (h1 : Tens u) (h2 : Errs u) (h3 : Most u) => implPca_any (n := n2) (L := L2) (w := u) (by omega) h1 h2 h3
      have hPb := fun (u : World) => specPca_any (n := n2) (L := L2) (w := u) (by omega)
      unfold PcPost at hPa hPb
      rw [← hS2, ← hV2, ← hO2] at hPa hPb
      replace hPa := hid hPa
      replace hPb := hid hPb
      replace hV2 := hid hV2
      replace hO2 := hid hO2
      replace hS2 := hid hS2
      obtain ⟨p2, z2, P2, M2, h2⟩ := V2
      have htc := hid (ht.out.ext (w' := w9))
      have hec := hid (he.out.ext (w' := w9))
      have hmc := hid (hmo.out.ext (w' := w9))
      go_wp2_with fail
      with_reducible refine (hPa.out w9 htc.out hec.out hmc.out).mono ?_
      rintro e w10 ⟨da, ca, db, cb, P2', M2', hp2, hm2, rfl, iPa, iMa, e10⟩
      have hp2' : P2' = P2 := hp2
      have hm2' : M2' = M2 := hm2
      subst hp2' hm2'
      clear hp2 hm2 htc hec hmc
      obtain ⟨WA, hWA⟩ : ∃ W, W = w10.alloc (.cells #[.int .i64 p2, .int .i64 z2, .slice da P2'.length ca, .slice db M2'.length cb, .int .i64 h2] 26) := ⟨_, rfl⟩
      have eWA : Ext w10 WA := by rw [hWA]; infer_instance
      have hA : BX WA w10.heap.size (.int .i64 p2) (.int .i64 z2) (.slice da P2'.length ca) (.slice db M2'.length cb) (.int .i64 h2) := by rw [hWA]; exact BX.alloc _ _ _ _ _ _ _
      have jPa := iPa.ext (w' := WA)
      have jMa := iMa.ext (w' := WA)
      replace cz := Ext.trans (Ext.trans cz e10) eWA
      clear iPa iMa e10
      go_upto_region 13 with fail
      rw [← hWA]
      replace hWA := hid hWA
      obtain ⟨ba, hba⟩ : ∃ b, b = w10.heap.size := ⟨_, rfl⟩
      rw [← hba] at hA ⊢
      replace hba := hid hba
      clear eWA
      go_wp2_with fail
      with_reducible refine (hPb.out WA).mono ?_
      rintro e w11 ⟨dc, cc', dd, cd, P2', M2', hp2, hm2, rfl, iPb, iMb, e11⟩
      have hp2' : P2' = _ := hp2
      have hm2' : M2' = _ := hm2
      subst hp2' hm2'
      clear hp2 hm2
      obtain ⟨WB, hWB⟩ : ∃ W, W = w11.alloc (.cells #[.int .i64 p2, .int .i64 z2, .slice dc P2'.length cc', .slice dd M2'.length cd, .int .i64 h2] 26) := ⟨_, rfl⟩
      have eWB : Ext w11 WB := by rw [hWB]; infer_instance
      have hB : BX WB w11.heap.size (.int .i64 p2) (.int .i64 z2) (.slice dc P2'.length cc') (.slice dd M2'.length cd) (.int .i64 h2) := by rw [hWB]; exact BX.alloc _ _ _ _ _ _ _
      have eAB : Ext WA WB := Ext.trans e11 eWB
      replace jPa := jPa.ext (e := eAB)
      replace jMa := jMa.ext (e := eAB)
      replace hA := hA.ext eAB
      have jPb := iPb.ext (w' := WB)
      have jMb := iMb.ext (w' := WB)
      replace cz := Ext.trans cz eAB
      clear iPb iMb e11 eAB
      go_upto_region 14 with fail
      rw [← hWB]
      replace hWB := hid hWB
      obtain ⟨bb, hbb⟩ : ∃ b, b = w11.heap.size := ⟨_, rfl⟩
      rw [← hbb] at hB ⊢
      replace hbb := hid hbb
      clear eWB
      go_wp2_with fail
      refine (vCut_any (w0 := w) (w := WB) hc' (n := 2) (by omega) hnb).mono ?_
      rintro e w12 ⟨vc2, nc2, rfl, hcc2, e12⟩
      have f12 : Ext WB w12 := e12
      obtain ⟨ac2, mc2, rfl⟩ := hcc2.form
      go_wp2_with fail
      refine (drawNc_any (w0 := w12) (w := w12) hcc2).mono ?_
      rintro e w13 ⟨kn, kp, kz, rfl, hkn, hkp, hkz, e13⟩
      have f13 : Ext WB w13 := Ext.trans f12 e13
      obtain ⟨V3, hV3⟩ : ∃ V, V = ncV kn kp kz := ⟨_, rfl⟩
      obtain ⟨O3, hO3⟩ : ∃ O, O = ncB kn kp kz := ⟨_, rfl⟩
      have hNa := fun (u : World) => implNc_any kn kp kz u
      have hNb := fun (u : World) => specNc_any kn kp kz u
      unfold NcPost at hNa hNb
      rw [← hV3, ← hO3] at hNa hNb
      replace hNa := hid hNa
      replace hNb := hid hNb
      replace hV3 := hid hV3
      replace hO3 := hid hO3
      obtain ⟨p3, z3⟩ := V3
      go_wp2_with fail
      with_reducible refine (hNa.out w13).mono ?_
      rintro e w14 ⟨de, df, ce, cf, rfl, e14⟩
      obtain ⟨WC, hWC⟩ : ∃ W, W = w14.alloc (.cells #[.int .i64 p3, .int .i64 z3, .slice de 0 ce, .slice df 0 cf, .int .i64 0] 26) := ⟨_, rfl⟩
      have eWC : Ext w14 WC := by rw [hWC]; infer_instance
      have hC : BX WC w14.heap.size (.int .i64 p3) (.int .i64 z3) (.slice de 0 ce) (.slice df 0 cf) (.int .i64 0) := by rw [hWC]; exact BX.alloc _ _ _ _ _ _ _
      have fC : Ext WB WC := Ext.trans (Ext.trans f13 e14) eWC
      clear e12 f12 e13 f13 e14 hcc2
      go_upto_region 16 with fail
      rw [← hWC]
      replace hWC := hid hWC
      obtain ⟨bc, hbc⟩ : ∃ b, b = w14.heap.size := ⟨_, rfl⟩
      rw [← hbc] at hC ⊢
      replace hbc := hid hbc
      clear eWC
      go_wp2_with fail
      with_reducible refine (hNb.out WC).mono ?_
      rintro e w15 ⟨dg, dh, cg, ch, rfl, e15⟩
      obtain ⟨WD, hWD⟩ : ∃ W, W = w15.alloc (.cells #[.int .i64 p3, .int .i64 z3, .slice dg 0 cg, .slice dh 0 ch, .int .i64 0] 26) := ⟨_, rfl⟩
      have eWD : Ext w15 WD := by rw [hWD]; infer_instance
      have hD : BX WD w15.heap.size (.int .i64 p3) (.int .i64 z3) (.slice dg 0 cg) (.slice dh 0 ch) (.int .i64 0) := by rw [hWD]; exact BX.alloc _ _ _ _ _ _ _
      have fCD : Ext WC WD := Ext.trans e15 eWD
      have fD : Ext WB WD := Ext.trans fC fCD
      replace hC := hC.ext fCD
      replace hA := hA.ext fD
      replace hB := hB.ext fD
      replace jPa := jPa.ext (e := fD)
      replace jMa := jMa.ext (e := fD)
      replace jPb := jPb.ext (e := fD)
      replace jMb := jMb.ext (e := fD)
      replace cz := Ext.trans cz fD
      clear e15 fC fCD fD
      go_upto_region 17 with fail
      rw [← hWD]
      replace hWD := hid hWD
      obtain ⟨bd, hbd⟩ : ∃ b, b = w15.heap.size := ⟨_, rfl⟩
      rw [← hbd] at hD ⊢
      replace hbd := hid hbd
      clear eWD
      have hVy := hid (fun (u : World) (e : Ext WD u) => @vCache_same p2 z2 h2 P2' M2' _ _ _ _ _ _ _ _ WD u e jPa jMa jPb jMb)
      have hVz := hid (fun (u : World) => @vCache_same p3 z3 0 [] [] de df dg dh ce cf cg ch u u (Ext.refl _) (ints_e _ _ _) (ints_e _ _ _) (ints_e _ _ _) (ints_e _ _ _))
      clear jPa jMa jPb jMb
      go_cut [163] from 135 to 163 (fun bv wx => bv = .bool false ∧ Ext WD wx)
      case first =>
        have qO2 : (O2 != O2) = false := by simp
        have qO3 : (O3 != O3) = false := by simp
        have hA' := hA
        have hB' := hB
        obtain ⟨x0, x1, x2, x3, x4, -, -, -, -, -⟩ := hA'
        obtain ⟨y0, y1, y2, y3, y4, -, -, -, -, -⟩ := hB'
        go_wp2_with fail
        with_reducible refine (hVy.out WD (Ext.refl _)).mono ?_
        rintro e wa ⟨rfl, ea⟩
        clear x0 x1 x2 x3 x4 y0 y1 y2 y3 y4
        have hC' := hC.ext ea
        have hD' := hD.ext ea
        obtain ⟨x0, x1, x2, x3, x4, -, -, -, -, -⟩ := hC'
        obtain ⟨y0, y1, y2, y3, y4, -, -, -, -, -⟩ := hD'
        go_wp2_with fail
        refine (hVz.out wa).mono ?_
        rintro e wb ⟨rfl, eb⟩
        clear x0 x1 x2 x3 x4 y0 y1 y2 y3 y4
        have eab := Ext.trans ea eb
        have hC' := hC.ext eab
        obtain ⟨x0, x1, x2, x3, x4, -, -, -, -, -⟩ := hC'
        cases O3 with
        | false =>
          go_wp2_with fail
          go_meet
          exact ⟨rfl, eab⟩
        | true =>
          go_wp2_with fail
          go_meet
          exact ⟨rfl, eab⟩
      case rest =>
        obtain ⟨rfl, hcut⟩ := hcut
        obtain ⟨wh, rfl⟩ : ∃ y : World, y = wc := ⟨_, rfl⟩
        replace cz := Ext.trans cz hcut
        clear hA hB hC hD hVy hVz hcut hPa hPb hNa hNb
        go_wp2_with fail
        refine (vCut_any (w0 := w) (w := wh) hc' (n := 3) (by omega) hnb).mono ?_
        rintro e v1 ⟨vc3, nc3, rfl, hcc3, f1⟩
        replace cz := Ext.trans cz f1
        obtain ⟨ac3, mc3, rfl⟩ := hcc3.form
        go_wp2_with fail
        refine (drawPn_any (w0 := v1) (w := v1) hcc3).mono ?_
        rintro e v2 ⟨kq, rfl, hkq, f2⟩
        replace cz := Ext.trans cz f2
        clear f1 f2 hcc3
        obtain ⟨L3, hL3⟩ : ∃ q, q = pnT kq := ⟨_, rfl⟩
        obtain ⟨S3, hS3⟩ : ∃ q, q = bsOf L3 := ⟨_, rfl⟩
        obtain ⟨T3, hT3⟩ : ∃ q, q = inB kq 1 7 := ⟨_, rfl⟩
        obtain ⟨A3, hA3⟩ : ∃ q, q = polOf L3 := ⟨_, rfl⟩
        obtain ⟨D3, hD3⟩ : ∃ q, q = decide (1 ≤ A3) := ⟨_, rfl⟩
        have hcase : (T3 = true → D3 = true ∧ A3 = kq) ∧ (T3 = false → D3 = false) := by
          rw [hD3, hA3, hL3, hT3]
          unfold pnT
          refine ⟨fun hq => ?_, fun hq => ?_⟩
          · have hb := inB_true.1 hq
            rw [if_pos hq, pol_name hb]
            exact ⟨decide_eq_true hb.1, rfl⟩
          · rw [if_neg (by rw [hq]; decide)]
            decide
        have hN1 := fun (u : World) (hm : Most u) => PolicyName_any (p := kq) (w := u) hm
        have hN2 := fun (u : World) => specPn_any kq u
        have hN3 := fun (u : World) (hm : Most u) => PolicyOf_any (L := L3) (w := u) hm
        rw [← hL3, ← hS3, ← hT3] at hN1 hN2
        rw [← hS3, ← hA3, ← hD3] at hN3
        replace hN1 := hid hN1
        replace hN2 := hid hN2
        replace hN3 := hid hN3
        replace hL3 := hid hL3
        replace hS3 := hid hS3
        replace hT3 := hid hT3
        replace hA3 := hid hA3
        replace hD3 := hid hD3
        have hmc := hid (hmo.out.ext (w' := v2))
        go_wp2_with fail
        with_reducible refine (hN1.out v2 hmc.out).mono ?_
        rintro e v3 ⟨rfl, f3⟩
        replace cz := Ext.trans cz f3
        go_wp2_with fail
        with_reducible refine (hN2.out v3).mono ?_
        rintro e v4 ⟨rfl, f4⟩
        replace cz := Ext.trans cz f4
        clear f3 f4
        go_wp2_with fail
        refine (vCut_any (w0 := w) (w := v4) hc' (n := 4) (by omega) hnb).mono ?_
        rintro e v5 ⟨vc4, nc4, rfl, hcc4, f5⟩
        replace cz := Ext.trans cz f5
        obtain ⟨ac4, mc4, rfl⟩ := hcc4.form
        go_wp2_with fail
        refine (drawPo_any (w0 := v5) (w := v5) hcc4).mono ?_
        rintro e v6 ⟨L4, rfl, hL4, f6⟩
        replace cz := Ext.trans cz f6
        clear f5 f6 hcc4
        obtain ⟨S4, hS4⟩ : ∃ q, q = bsOf L4 := ⟨_, rfl⟩
        obtain ⟨A4, hA4⟩ : ∃ q, q = polOf L4 := ⟨_, rfl⟩
        obtain ⟨D4, hD4⟩ : ∃ q, q = decide (1 ≤ A4) := ⟨_, rfl⟩
        have hN4 := fun (u : World) (hm : Most u) => PolicyOf_any (L := L4) (w := u) hm
        have hN5 := fun (u : World) => specPo_any L4 u
        rw [← hS4, ← hA4, ← hD4] at hN4 hN5
        rw [← hS4]
        replace hN4 := hid hN4
        replace hN5 := hid hN5
        replace hS4 := hid hS4
        replace hA4 := hid hA4
        replace hD4 := hid hD4
        have hmc := hid (hmo.out.ext (w' := v6))
        go_wp2_with fail
        with_reducible refine (hN4.out v6 hmc.out).mono ?_
        rintro e v7 ⟨rfl, f7⟩
        replace cz := Ext.trans cz f7
        go_wp2_with fail
        with_reducible refine (hN5.out v7).mono ?_
        rintro e v8 ⟨rfl, f8⟩
        replace cz := Ext.trans cz f8
        clear f7 f8
        have hmc := hid (hmo.out.ext (w' := v8))
        go_wp2_with fail
        with_reducible refine (hN3.out v8 hmc.out).mono ?_
        rintro e v9 ⟨rfl, f9⟩
        replace cz := Ext.trans cz f9
        have qD4 : (D4 == D4) = true := by simp
        cases T3 with
        | false =>
          obtain rfl := hcase.2 rfl
          go_wp2_with fail
          go_ret
          exact ⟨rfl, cz⟩
        | true =>
          obtain ⟨rfl, hAk⟩ := hcase.1 rfl
          subst hAk
          go_wp2_with fail
          go_ret
          exact ⟨rfl, cz⟩
end Go.Proofs.YtaphnkgjcmneoaaGreatDoor
