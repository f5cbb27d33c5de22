/- Fractions as texts: written and read. -/
import Derived.Test.YtohjbabjkjcddaaDoorFre
import Derived.Test.YtohjbabjkjcddaaDoorNmd
namespace Go.Proofs.YtohjbabjkjcddaaDoor
open Go.RowKit

set_option maxHeartbeats 1600000 in
theorem fracText_any {n d : Int} (h : fracB n d = true) {w : World} (ht : Tens w) :
    Calls Tryd.prog 29 #[.agg #[.int .i64 n, .int .i64 d]] w fun e w' => e = .returned (.string (bsOf (ftL n d))) ∧ Ext w w' := by
  have hb := fracB_in h
  obtain ⟨W, hW⟩ : ∃ W, W = w.alloc (.cells #[.int .i64 n, .int .i64 d] 25) := ⟨_, rfl⟩
  have eW : Ext w W := by rw [hW]; infer_instance
  have x0 : W.cell? ⟨w.heap.size, 0, none⟩ = some (.int .i64 n) := by rw [hW]; go_simp
  have x1 : W.cell? ⟨w.heap.size, 1, none⟩ = some (.int .i64 d) := by rw [hW]; go_simp
  have htW := hid (ht.ext (w' := W))
  obtain ⟨S1, hS1⟩ : ∃ S, S = bsOf (Lib.itoa n) := ⟨_, rfl⟩
  obtain ⟨S2, hS2⟩ : ∃ S, S = bsOf (Lib.itoa d) := ⟨_, rfl⟩
  have l1 : S1.size ≤ 21 := by rw [hS1, bsOf_size]; exact itoa_len (by omega)
  have l2 : S2.size ≤ 21 := by rw [hS2, bsOf_size]; exact itoa_len (by omega)
  have hN1 := fun (u : World) (hu : Tens u) => dec_any n (by omega) hu
  have hN2 := fun (u : World) (hu : Tens u) => dec_any d (by omega) hu
  rw [← hS1] at hN1
  rw [← hS2] at hN2
  replace hN1 := hid hN1
  replace hN2 := hid hN2
  by_cases hd : d = 1
  · have hd1 : (d == 1) = true := by rw [hd]; rfl
    have hr : bsOf (ftL n d) = S1 := by rw [hS1, ftL, if_pos hd]
    rw [hr]
    replace hd := hid hd
    replace hS1 := hid hS1
    replace hS2 := hid hS2
    replace hr := hid hr
    go_enter Tryd.func29, Tryd.ntmps29
    go_upto_region 1 with fail
    rw [← hW]
    replace hW := hid hW
    go_wp2_with fail
    refine (hN1.out W htW.out).mono ?_
    rintro e w2 ⟨rfl, e2⟩
    go_wp2_with fail
    go_ret
    exact ⟨rfl, Ext.trans eW e2⟩
  · have hd1 : (d == 1) = false := beq_eq_false_iff_ne.2 hd
    obtain ⟨S3, hS3⟩ : ∃ S, S = bsOf (Lib.itoa n ++ [47]) := ⟨_, rfl⟩
    have l3 : S3.size ≤ 22 := by rw [hS3, bsOf_size, List.length_append]; have := itoa_len (n := n) (by omega); simp; omega
    have f1 : S1 ++ ({ data := #[47] } : ByteArray) = S3 := by rw [hS1, hS3, show ({ data := #[47] } : ByteArray) = bsOf [47] from rfl, bsOf_append]
    obtain ⟨T, hT⟩ : ∃ S, S = bsOf (ftL n d) := ⟨_, rfl⟩
    have f2 : S3 ++ S2 = T := by rw [hS3, hS2, hT, ftL, if_neg hd, bsOf_append, List.append_assoc]; rfl
    rw [← hT]
    replace hS1 := hid hS1
    replace hS2 := hid hS2
    replace hS3 := hid hS3
    replace hT := hid hT
    replace f1 := hid f1
    replace f2 := hid f2
    go_enter Tryd.func29, Tryd.ntmps29
    go_upto_region 1 with fail
    rw [← hW]
    replace hW := hid hW
    go_upto_region 3 with fail
    refine region_held_from (w0 := W) (S := fun u => Ext W u ∧ u.cell? ⟨w.heap.size, 0, none⟩ = some (.int .i64 n) ∧ u.cell? ⟨w.heap.size, 1, none⟩ = some (.int .i64 d)) (by kernel_rfl) (fun u e => ⟨e, e.cell x0, e.cell x1⟩) (fun wd ed hHeld0 => ?_)
    refine wpAnyH_take (i := 0) (v := .pointer (some ⟨w.heap.size, 0, none⟩)) rfl (by kernel_rfl) (by kernel_rfl) (by kernel_rfl) (fun _ _ _ h => h) (Or.inl ⟨by rfl, by intro wx hx; go_simp⟩) (by assumption) ?_
    try simp only [List.getElem_toArray, List.getElem_cons_zero, Act.put, List.setIfInBounds_toArray, List.set_cons_zero, List.set_cons_succ]
    refine wpAnyH_take (i := 1) (v := .int .i64 n) rfl (by kernel_rfl) (by kernel_rfl) (by kernel_rfl) (fun _ _ _ h => h) (Or.inl ⟨by rfl, by intro wx hx; obtain ⟨_, _, _⟩ := hx; go_simp⟩) (by assumption) ?_
    try simp only [List.getElem_toArray, List.getElem_cons_succ, List.getElem_cons_zero, Act.put, List.setIfInBounds_toArray, List.set_cons_zero, List.set_cons_succ]
    refine wpAnyH_take (i := 4) (v := .pointer (some ⟨w.heap.size, 1, none⟩)) rfl (by kernel_rfl) (by kernel_rfl) (by kernel_rfl) (fun _ _ _ h => h) (Or.inl ⟨by rfl, by intro wx hx; go_simp⟩) (by assumption) ?_
    try simp only [List.getElem_toArray, List.getElem_cons_succ, List.getElem_cons_zero, Act.put, List.setIfInBounds_toArray, List.set_cons_zero, List.set_cons_succ]
    refine wpAnyH_take (i := 5) (v := .int .i64 d) rfl (by kernel_rfl) (by kernel_rfl) (by kernel_rfl) (fun _ _ _ h => h) (Or.inl ⟨by rfl, by intro wx hx; obtain ⟨_, _, _⟩ := hx; go_simp⟩) (by assumption) ?_
    try simp only [List.getElem_toArray, List.getElem_cons_succ, List.getElem_cons_zero, Act.put, List.setIfInBounds_toArray, List.set_cons_zero, List.set_cons_succ]
    refine wpAnyH_ready (rs := [2]) (by kernel_rfl) (by simp) ?_
    refine AllReadyH.cons rfl (fun K hK => ?_) AllReadyH.nil
    go_simp
    have e0 : Ext W wd := ed
    refine (hN1.out wd (htW.out.ext (w' := wd))).mono ?_
    rintro e w2 ⟨rfl, e2⟩
    go_wp2_with fail
    have er2 : Ext W w2 := Ext.trans e0 e2
    refine hK.out _ _ ⟨er2, er2.cell x0, er2.cell x1⟩ (fun hHeld1 => ?_)
    clear hK K hHeld0
    try simp only [List.getElem_toArray, List.getElem_cons_succ, List.getElem_cons_zero, Act.put, List.setIfInBounds_toArray, List.set_cons_zero, List.set_cons_succ]
    refine wpAnyH_take (i := 3) (v := .string S3) rfl (by kernel_rfl) (by kernel_rfl) (by kernel_rfl) (fun _ _ _ h => h) (Or.inl ⟨by rfl, by intro wx hx; (go_simp; rw [if_neg (by omega), f1.out])⟩) (by assumption) ?_
    try simp only [List.getElem_toArray, List.getElem_cons_succ, List.getElem_cons_zero, Act.put, List.setIfInBounds_toArray, List.set_cons_zero, List.set_cons_succ]
    refine wpAnyH_ready (rs := [6]) (by kernel_rfl) (by simp) ?_
    refine AllReadyH.cons rfl (fun K hK => ?_) AllReadyH.nil
    go_simp
    refine (hN2.out w2 (htW.out.ext (w' := w2))).mono ?_
    rintro e w3 ⟨rfl, e3⟩
    go_wp2_with fail
    have er3 : Ext W w3 := Ext.trans er2 e3
    refine hK.out _ _ ⟨er3, er3.cell x0, er3.cell x1⟩ (fun hHeld2 => ?_)
    clear hK K hHeld1
    try simp only [List.getElem_toArray, List.getElem_cons_succ, List.getElem_cons_zero, Act.put, List.setIfInBounds_toArray, List.set_cons_zero, List.set_cons_succ]
    refine wpAnyH_take (i := 7) (v := .string T) rfl (by kernel_rfl) (by kernel_rfl) (by kernel_rfl) (fun _ _ _ h => h) (Or.inl ⟨by rfl, by intro wx hx; (go_simp; rw [if_neg (by omega), f2.out])⟩) (by assumption) ?_
    try simp only [List.getElem_toArray, List.getElem_cons_succ, List.getElem_cons_zero, Act.put, List.setIfInBounds_toArray, List.set_cons_zero, List.set_cons_succ]
    refine wpAnyH_take (i := 8) (v := .string T) rfl (by kernel_rfl) (by kernel_rfl) (by kernel_rfl) (fun _ _ _ h => h) (Or.inl ⟨by rfl, by intro wx hx; go_simp⟩) (by assumption) ?_
    try simp only [List.getElem_toArray, List.getElem_cons_succ, List.getElem_cons_zero, Act.put, List.setIfInBounds_toArray, List.set_cons_zero, List.set_cons_succ]
    refine wpAnyH_done (by kernel_rfl) ?_ _
    go_wp2_with fail
    go_ret
    exact ⟨rfl, Ext.trans eW er3⟩
def ftS (n d : Int) : List UInt8 := if fracB n d then ftL n d else []
set_option maxHeartbeats 1600000 in
theorem FracText_any {n d : Int} {w : World} (ht : Tens w) :
    Calls Tryd.prog 13 #[.agg #[.int .i64 n, .int .i64 d]] w fun e w' => e = .returned (.tuple #[.string (bsOf (ftS n d)), .bool (fracB n d)]) ∧ Ext w w' := by
  obtain ⟨W, hW⟩ : ∃ W, W = w.alloc (.cells #[.int .i64 n, .int .i64 d] 25) := ⟨_, rfl⟩
  have eW : Ext w W := by rw [hW]; infer_instance
  have x0 : W.cell? ⟨w.heap.size, 0, none⟩ = some (.int .i64 n) := by rw [hW]; go_simp
  have x1 : W.cell? ⟨w.heap.size, 1, none⟩ = some (.int .i64 d) := by rw [hW]; go_simp
  have htW := hid (ht.ext (w' := W))
  cases h : fracB n d with
  | false =>
    have hr : bsOf (ftS n d) = { data := #[] } := by rw [ftS, h]; rfl
    rw [hr]
    replace hr := hid hr
    go_enter Tryd.func13, Tryd.ntmps13
    go_upto_region 1 with fail
    rw [← hW]
    replace hW := hid hW
    go_wp2_with fail
    refine (IsFrac_any (n := n) (d := d) W).mono ?_
    rw [h]
    rintro e w2 ⟨rfl, e2⟩
    go_wp2_with fail
    go_ret2
    exact ⟨rfl, Ext.trans eW e2⟩
  | true =>
    have hF := fun (u : World) (hu : Tens u) => fracText_any h hu
    obtain ⟨T, hT⟩ : ∃ S, S = bsOf (ftL n d) := ⟨_, rfl⟩
    have hr : bsOf (ftS n d) = T := by rw [ftS, h, hT]; rfl
    rw [hr]
    rw [← hT] at hF
    replace hT := hid hT
    replace hr := hid hr
    replace hF := hid hF
    go_enter Tryd.func13, Tryd.ntmps13
    go_upto_region 1 with fail
    rw [← hW]
    replace hW := hid hW
    go_wp2_with fail
    refine (IsFrac_any (n := n) (d := d) W).mono ?_
    rw [h]
    rintro e w2 ⟨rfl, e2⟩
    have x0 := e2.cell x0
    have x1 := e2.cell x1
    replace h := hid h
    go_wp2_with fail
    refine (hF.out w2 (htW.out.ext (w' := w2))).mono ?_
    rintro e w3 ⟨rfl, e3⟩
    go_wp2_with fail
    go_ret2
    exact ⟨rfl, Ext.trans eW (Ext.trans e2 e3)⟩
set_option maxHeartbeats 1600000 in
theorem ParseFrac_any {n d : Int} (hf : fracB n d = true) {w : World} (ht : Tens w) (he : Errs w) (hm : Most w) :
    Calls Tryd.prog 15 #[.string (bsOf (ftL n d))] w fun e w' => e = .returned (.tuple #[.agg #[.int .i64 n, .int .i64 d], .bool true]) ∧ Ext w w' := by
  have hb := fracB_in hf
  have hlen := ft_len hf
  obtain ⟨W, hW⟩ : ∃ W, W = w.alloc (.cells #[.int .i64 0, .int .i64 0] 25) := ⟨_, rfl⟩
  have eW : Ext w W := by rw [hW]; infer_instance
  have z0 : W.cell? ⟨w.heap.size, 0, none⟩ = some (.int .i64 0) := by rw [hW]; go_simp
  have z1 : W.cell? ⟨w.heap.size, 1, none⟩ = some (.int .i64 0) := by rw [hW]; go_simp
  have f0 : W.frozen? ⟨w.heap.size, 0, none⟩ = false := by rw [hW]; go_simp
  have f1 : W.frozen? ⟨w.heap.size, 1, none⟩ = false := by rw [hW]; go_simp
  have htW := hid (ht.ext (w' := W))
  have heW := hid (he.ext (w' := W))
  obtain ⟨m, hm'⟩ := hm.ext (w' := W)
  have hcut := Tryd.strings_Cut (bsOf (ftL n d)) { data := #[47] } m W (by rw [bsOf_size]; omega) hm'
  rw [bsOf_list, show ({ data := #[47] } : ByteArray).data.toList = [47] from rfl] at hcut
  have hF := fun (u : World) (hu : Tens u) => fracText_any hf hu
  have hR1 := fun (u : World) (h1 : Tens u) (h2 : Errs u) => readDec_any (L := Lib.itoa n) (w := u) (by have := itoa_len (n := n) (by omega); omega) h1 h2
  have hR2 := fun (u : World) (h1 : Tens u) (h2 : Errs u) => readDec_any (L := Lib.itoa d) (w := u) (by have := itoa_len (n := d) (by omega); omega) h1 h2
  rw [rdO_itoa (by omega), show optV (some n) = .tuple #[.int .i64 n, .bool true] from rfl] at hR1
  rw [rdO_itoa (by omega), show optV (some d) = .tuple #[.int .i64 d, .bool true] from rfl] at hR2
  obtain ⟨S1, hS1⟩ : ∃ S, S = bsOf (Lib.itoa n) := ⟨_, rfl⟩
  obtain ⟨S2, hS2⟩ : ∃ S, S = bsOf (Lib.itoa d) := ⟨_, rfl⟩
  rw [← hS1] at hR1
  rw [← hS2] at hR2
  by_cases hd : d = 1
  · have hcut2 : Calls Tryd.prog 33 #[.string (bsOf (ftL n d)), .string { data := #[47] }] W fun e w' => ∃ B, e = .returned (.tuple #[.string S1, .string B, .bool false]) ∧ Ext W w' := by
      refine hcut.mono ?_
      rintro e w' ⟨rfl, k, rfl⟩
      rw [hd, ft_cut1, hS1]
      exact ⟨_, rfl, inferInstance⟩
    obtain ⟨T, hT⟩ : ∃ S, S = bsOf (ftL n d) := ⟨_, rfl⟩
    rw [← hT] at hcut2 hF ⊢
    subst hd
    replace hT := hid hT
    replace hS1 := hid hS1
    replace hS2 := hid hS2
    replace hcut2 := hid hcut2
    replace hF := hid hF
    replace hR1 := hid hR1
    replace hf := hid hf
    clear hcut hm' hR2 hm
    go_enter Tryd.func15, Tryd.ntmps15
    go_upto_region 1 with fail
    rw [← hW]
    replace hW := hid hW
    go_wp2_with fail
    refine hcut2.out.mono ?_
    rintro e w1 ⟨B, rfl, e1⟩
    go_wp2_with fail
    refine (hR1.out w1 (htW.out.ext (w' := w1)) (heW.out.ext (w' := w1))).mono ?_
    rintro e w3 ⟨rfl, e2⟩
    have e2b : Ext W w3 := Ext.trans e1 e2
    go_upto_region 7 with fail
    have o0 : (w3.alloc (.cells #[.int .i64 n, .int .i64 1] 25)).cell? ⟨w3.heap.size, 0, none⟩ = some (.int .i64 n) := by go_simp
    have o1 : (w3.alloc (.cells #[.int .i64 n, .int .i64 1] 25)).cell? ⟨w3.heap.size, 1, none⟩ = some (.int .i64 1) := by go_simp
    have e4 : Ext w3 (w3.alloc (.cells #[.int .i64 n, .int .i64 1] 25)) := inferInstance
    generalize w3.alloc (.cells #[.int .i64 n, .int .i64 1] 25) = w4 at *
    go_wp2_with fail
    refine (IsFrac_any (n := n) (d := 1) w4).mono ?_
    rw [hf.out]
    rintro e w5 ⟨rfl, e5⟩
    have o0 := e5.cell o0
    have o1 := e5.cell o1
    have e6 : Ext W w5 := Ext.trans e2b (Ext.trans e4 e5)
    go_wp2_with fail
    refine (hF.out w5 (htW.out.ext (w' := w5))).mono ?_
    rintro e w6 ⟨rfl, e7⟩
    have o0 := e7.cell o0
    have o1 := e7.cell o1
    have e8 : Ext W w6 := Ext.trans e6 e7
    have s0 := e8.cell z0
    have s1 := e8.cell z1
    have sf0 := e8.frozen z0 f0
    have sf1 := e8.frozen z1 f1
    go_wp2_with fail
    refine bodyPost_ret (v := .tuple #[.agg #[.int .i64 n, .int .i64 1], .bool true]) (by simp [results, Tryd.results15, go_sem, s0, s1]) rfl ?_
    refine ⟨rfl, ?_⟩
    exact @Ext.set _ _ (@Ext.set _ _ (Ext.trans eW e8) ⟨w.heap.size, 0, none⟩ (Nat.le_refl _) _) ⟨w.heap.size, 1, none⟩ (Nat.le_refl _) _
  · have hcut2 : Calls Tryd.prog 33 #[.string (bsOf (ftL n d)), .string { data := #[47] }] W fun e w' => e = .returned (.tuple #[.string S1, .string S2, .bool true]) ∧ Ext W w' := by
      refine hcut.mono ?_
      rintro e w' ⟨rfl, k, rfl⟩
      rw [ft_cut hd, hS1, hS2]
      exact ⟨rfl, inferInstance⟩
    obtain ⟨T, hT⟩ : ∃ S, S = bsOf (ftL n d) := ⟨_, rfl⟩
    rw [← hT] at hcut2 hF ⊢
    replace hT := hid hT
    replace hS1 := hid hS1
    replace hS2 := hid hS2
    replace hcut2 := hid hcut2
    replace hF := hid hF
    replace hR1 := hid hR1
    replace hR2 := hid hR2
    replace hf := hid hf
    clear hcut hm' hm
    go_enter Tryd.func15, Tryd.ntmps15
    go_upto_region 1 with fail
    rw [← hW]
    replace hW := hid hW
    go_wp2_with fail
    refine hcut2.out.mono ?_
    rintro e w1 ⟨rfl, e1⟩
    go_wp2_with fail
    refine (hR1.out w1 (htW.out.ext (w' := w1)) (heW.out.ext (w' := w1))).mono ?_
    rintro e w2 ⟨rfl, e2⟩
    have ea : Ext W w2 := Ext.trans e1 e2
    go_wp2_with fail
    refine (hR2.out w2 (htW.out.ext (w' := w2)) (heW.out.ext (w' := w2))).mono ?_
    rintro e w3 ⟨rfl, e3⟩
    have e2b : Ext W w3 := Ext.trans e1 (Ext.trans e2 e3)
    go_upto_region 7 with fail
    have o0 : (w3.alloc (.cells #[.int .i64 n, .int .i64 d] 25)).cell? ⟨w3.heap.size, 0, none⟩ = some (.int .i64 n) := by go_simp
    have o1 : (w3.alloc (.cells #[.int .i64 n, .int .i64 d] 25)).cell? ⟨w3.heap.size, 1, none⟩ = some (.int .i64 d) := by go_simp
    have e4 : Ext w3 (w3.alloc (.cells #[.int .i64 n, .int .i64 d] 25)) := inferInstance
    generalize w3.alloc (.cells #[.int .i64 n, .int .i64 d] 25) = w4 at *
    go_wp2_with fail
    refine (IsFrac_any (n := n) (d := d) w4).mono ?_
    rw [hf.out]
    rintro e w5 ⟨rfl, e5⟩
    have o0 := e5.cell o0
    have o1 := e5.cell o1
    have e6 : Ext W w5 := Ext.trans e2b (Ext.trans e4 e5)
    go_wp2_with fail
    refine (hF.out w5 (htW.out.ext (w' := w5))).mono ?_
    rintro e w6 ⟨rfl, e7⟩
    have o0 := e7.cell o0
    have o1 := e7.cell o1
    have e8 : Ext W w6 := Ext.trans e6 e7
    have s0 := e8.cell z0
    have s1 := e8.cell z1
    have sf0 := e8.frozen z0 f0
    have sf1 := e8.frozen z1 f1
    go_wp2_with fail
    refine bodyPost_ret (v := .tuple #[.agg #[.int .i64 n, .int .i64 d], .bool true]) (by simp [results, Tryd.results15, go_sem, s0, s1]) rfl ?_
    refine ⟨rfl, ?_⟩
    exact @Ext.set _ _ (@Ext.set _ _ (Ext.trans eW e8) ⟨w.heap.size, 0, none⟩ (Nat.le_refl _) _) ⟨w.heap.size, 1, none⟩ (Nat.le_refl _) _
end Go.Proofs.YtohjbabjkjcddaaDoor
